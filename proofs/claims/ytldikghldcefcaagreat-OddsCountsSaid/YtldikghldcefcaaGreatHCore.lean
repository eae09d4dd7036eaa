/- Lemmas, merged out of smaller texts (wip/tools/mergedce.py). No condition. -/
import Derived.WalkKit
import Derived.Lib.Hide
import Derived.Deep.Draws
import Derived.Test.YtldikghldcefcaaGreatProg
import Derived.BigQuiet
import Derived.Deep.LoopGhost
import Derived.Deep.Cut
import Derived.Laws.Rows
import Derived.Laws.Tables
import Derived.Maps.AppendAt
import Derived.Outline
section
set_option linter.unusedVariables false
namespace Go.Proofs.YtldikghldcefcaaGreat
theorem zsA {α : Type _} (xs : List α) (i : Nat) (a : α) : xs.toArray.setIfInBounds i a = (xs.set i a).toArray := List.setIfInBounds_toArray xs i a
theorem zsB {α : Type _} (x a : α) (xs : List α) : (x :: xs).set 0 a = a :: xs := rfl
theorem zsC {α : Type _} (x a : α) (xs : List α) (i : Nat) : (x :: xs).set (i + 1) a = x :: xs.set i a := rfl
structure TierD where
 main : Int
 bonus : Int
 extra : Int
 mode : Int
 kind : Int
 value : Int
structure AddonD where
 name : ByteArray
 kind : Int
 price : Int
 factors : List Int
 digits : Int
 prizes : List Int
structure GameD where
 name : ByteArray
 kind : Int
 price : Int
 main : Int
 of : Int
 bonus : Int
 bonusOf : Int
 extra : Int
 draws : Int
 system : Int
 days : Int
 at_ : Int
 close : Int
 cancel : Int
 expiry : Int
 pool : Int
 reserve : Int
 round : Int
 cap : Int
 rolls : Int
 addons : List AddonD
 tiers : List TierD
def inB (x lo hi : Int) : Bool := decide (lo ≤ x ∧ x ≤ hi)
theorem inB_yes {x lo hi : Int} (h1 : lo ≤ x) (h2 : x ≤ hi) : inB x lo hi = true := decide_eq_true ⟨h1,h2⟩
theorem inB_lo {x lo hi : Int} (h1 : x < lo) : inB x lo hi = false := decide_eq_false (by omega)
theorem inB_hi {x lo hi : Int} (h1 : hi < x) : inB x lo hi = false := decide_eq_false (by omega)
theorem inB_iff {x lo hi : Int} : inB x lo hi = true ↔ lo ≤ x ∧ x ≤ hi := decide_eq_true_iff
def nameC (c : Nat) : Bool := decide ((97 ≤ c ∧ c ≤ 122) ∨ (48 ≤ c ∧ c ≤ 57) ∨ c = 45)
def byteN (s : ByteArray) (i : Nat) : Nat := if h : i < s.size then (s[i]'h).toNat else 0
theorem byteN_eq {s : ByteArray} {i : Nat} (h : i < s.size) : byteN s i = (s[i]'h).toNat := dif_pos h
def nameB (s : ByteArray) : Bool := decide (1 ≤ s.size ∧ s.size ≤ 24 ∧ 97 ≤ byteN s 0 ∧ byteN s 0 ≤ 122 ∧ ∀ i,i < s.size → nameC (byteN s i) = true)
theorem name_short {s : ByteArray} (h : ¬ (1 ≤ s.size ∧ s.size ≤ 24)) : nameB s = false := decide_eq_false (fun e => h ⟨e.1,e.2.1⟩)
theorem name_first {s : ByteArray} (h : ¬ (97 ≤ byteN s 0 ∧ byteN s 0 ≤ 122)) : nameB s = false := decide_eq_false (fun e => h ⟨e.2.2.1,e.2.2.2.1⟩)
theorem name_at {s : ByteArray} {i : Nat} (hi : i < s.size) (h : nameC (byteN s i) = false) : nameB s = false := decide_eq_false (fun e => by have := e.2.2.2.2 i hi;rw [h] at this;cases this)
theorem name_yes {s : ByteArray} (h1 : 1 ≤ s.size) (h2 : s.size ≤ 24) (h3 : 97 ≤ byteN s 0) (h4 : byteN s 0 ≤ 122) (h : ∀ i,i < s.size → nameC (byteN s i) = true) : nameB s = true := decide_eq_true ⟨h1,h2,h3,h4,h⟩
theorem name_size {s : ByteArray} (h : nameB s = true) : s.size ≤ 24 := (of_decide_eq_true h).2.1
def allE (l : List Int) (lo hi : Int) : Int := if l.all (fun x => inB x lo hi) then 0 else 2
def addonE (a : AddonD) : Int :=
 if nameB a.name = false then 4
 else if a.kind ≠ 1 ∧ a.kind ≠ 2 then 7
 else if inB a.price 0 1000000 = false then 2
 else if a.kind = 1 then
  (if a.digits ≠ 0 ∨ 0 < a.prizes.length then 7 else if inB a.factors.length 1 8 = false then 3 else allE a.factors 1 100)
 else
  (if 0 < a.factors.length then 7 else if inB a.digits 1 8 = false then 2 else if (a.prizes.length : Int) ≠ a.digits then 3 else allE a.prizes 0 1000000000)
def addonsGo : List AddonD → List AddonD → Int
 | _,[] => 0
 | seen,a :: r => if addonE a ≠ 0 then addonE a else if seen.any (fun s => decide (s.name = a.name) || decide (s.kind = a.kind)) then 6 else addonsGo (seen ++ [a]) r
def addonsE (l : List AddonD) : Int := if 4 < l.length then 3 else addonsGo [] l
def chooseTE (g : GameD) (t : TierD) : Int := if t.mode ≠ 0 then 7 else if inB t.main 0 g.main = false ∨ inB t.bonus 0 g.bonus = false ∨ inB t.extra 0 g.extra = false ∨ (t.main = 0 ∧ t.bonus = 0 ∧ t.extra = 0) then 2 else 0
def digitsTE (g : GameD) (t : TierD) : Int := if inB t.mode 1 4 = false then 7 else if t.bonus ≠ 0 ∨ t.extra ≠ 0 ∨ (if t.mode ≤ 2 then inB t.main 0 0 else inB t.main 1 g.main) = false then 2 else 0
def tierE (g : GameD) (t : TierD) : Int :=
 let c : Int := if g.kind = 2 then digitsTE g t else chooseTE g t
 if c ≠ 0 then c else if inB t.kind 1 3 = false then 7 else if inB t.value 0 1000000000 = false then 2 else 0
def modeV (g : GameD) (t : TierD) : Int := if 3 ≤ t.mode ∧ t.mode ≤ 4 ∧ t.main = g.main then 1 else t.mode
def coversB (g : GameD) (a b : TierD) : Bool :=
 if g.kind = 1 then decide (a.main ≤ b.main ∧ a.bonus ≤ b.bonus ∧ a.extra ≤ b.extra)
 else if modeV g b = 1 then true
 else decide (modeV g a = modeV g b ∧ a.main ≤ b.main)
def tiersGo (g : GameD) : List TierD → List TierD → Int
 | _,[] => 0
 | seen,t :: r => if tierE g t ≠ 0 then tierE g t else if seen.any (fun s => coversB g s t) then 6 else tiersGo g (seen ++ [t]) r
def tiersE (g : GameD) : Int := if inB g.tiers.length 1 12 = false then 3 else tiersGo g [] g.tiers
def matB (g : GameD) : Bool :=
 inB g.price 1 1000000 && inB g.main 1 10 && (if g.kind = 2 then inB g.of 2 10 else inB g.of g.main 80) && (if g.kind = 2 then inB g.bonus 0 0 else inB g.bonus 0 4)
 && (if g.bonus = 0 then inB g.bonusOf 0 0 else inB g.bonusOf g.bonus 80)
 && (if g.kind = 2 then inB g.extra 0 0 else (inB g.extra 0 4 && decide (g.main + g.extra ≤ g.of)))
 && inB g.draws 1 32 && (if g.kind = 2 then inB g.system g.main g.main else (inB g.system g.main 14 && decide (g.system ≤ g.of)))
def termB (g : GameD) : Bool :=
 inB g.days 1 127 && inB g.at_ 0 1439 && inB g.close 0 1440 && inB g.cancel 0 10080 && inB g.expiry 1 3660 && inB g.pool 0 10000 && inB g.reserve 0 10000
 && inB g.round 1 1000000 && inB g.cap 0 1000000000000 && inB g.rolls 0 64
def gameE (g : GameD) : Int :=
 if nameB g.name = false then 4
 else if g.kind ≠ 1 ∧ g.kind ≠ 2 then 7
 else if matB g = false then 2
 else if termB g = false then 2
 else if addonsE g.addons ≠ 0 then addonsE g.addons
 else tiersE g
end Go.Proofs.YtldikghldcefcaaGreat
end
section
open Go.RowKit
set_option linter.unusedVariables false
set_option linter.unusedSimpArgs false
namespace Go.Proofs.YtldikghldcefcaaGreat
def Rd {α : Type} (V : α → Value) (w : World) (v : Value) (l : List α) : Prop :=
 ∃ ao cap,v = .slice ao l.length cap ∧ l.length ≤ cap ∧ cap ≤ maxLen ∧
  (0 < l.length → ∃ b off,ao = some ⟨b,off,none⟩ ∧ b < w.heap.size ∧ ∀ i x,l[i]? = some x → w.cell? ⟨b,off + i,none⟩ = some (V x))
abbrev U32 (n : Nat) : Value := .int .u32 (n : Int)
abbrev I64 (n : Int) : Value := .int .i64 n
section
variable {α : Type} {V : α → Value} {w w' : World} {v : Value} {l : List α}
theorem Rd.nil : Rd V w (.slice none 0 0) [] := ⟨none,0,rfl,Nat.le_refl _,Nat.zero_le _,fun h => absurd h (by simp)⟩
theorem Rd.keep (h : Rd V w v l) (hs : w.heap.size ≤ w'.heap.size) (hk : ∀ p : Addr,p.block < w.heap.size → v.ownBlock = some p.block → w'.cell? p = w.cell? p) : Rd V w' v l := by
 obtain ⟨ao,cap,rfl,h1,h2,h3⟩ := h
 refine ⟨ao,cap,rfl,h1,h2,fun hl => ?_⟩
 obtain ⟨b,off,rfl,hb,hc⟩ := h3 hl
 exact ⟨b,off,rfl,by omega,fun i x hx => (hk ⟨b,off + i,none⟩ hb rfl).trans (hc i x hx)⟩
theorem Rd.below (h : Rd V w v l) (hb : Below w.heap.size w w') : Rd V w' v l :=
 h.keep hb.size fun _ hp _ => hb.cell hp
theorem Rd.grown {row : Option Nat} (h : Rd V w v l) (hg : w.grownBy w' row) (hne : v.ownBlock ≠ row ∨ v.ownBlock = none) : Rd V w' v l :=
 h.keep hg.size fun p hp ho => World.cell?_of_block (hg.block p.block hp (by rw [← ho];rcases hne with h | h;exact h;rw [h] at ho;cases ho))
theorem Rd.alloc (h : Rd V w v l) (o : Obj) : Rd V (w.alloc o) v l := h.below ((Below.refl _ _).alloc (Nat.le_refl _) o)
theorem Rd.drew (h : Rd V w v l) : Rd V w.drew v l := h
theorem Rd.drewN (h : Rd V w v l) (k : Nat) : Rd V (w.drewN k) v l := h
theorem Rd.setCell (h : Rd V w v l) {p : Addr} (hp : v.ownBlock ≠ some p.block) (u : Value) : Rd V (w.setCell p u) v l :=
 h.keep (by simp [World.setCell]) fun q _ hq => World.cell?_setCell_other w p q u (fun e => by subst e;exact hp hq)
theorem Rd.own {base e : Nat} {n : Nat} (h : w.ownsRow base e 1 v n (l.map V)) : Rd V w v l := by
 have hn : n = l.length := by have := h.1;simp at this;omega
 subst hn
 rcases h.2 with ⟨rfl,h0⟩ | ⟨g,cap,cur,rfl,hb,hh,hc,hm,hs,ht⟩
 ·have : l = [] := List.eq_nil_of_length_eq_zero h0
  subst this;exact Rd.nil
 ·refine ⟨_,cap,rfl,hc,hm,fun hl => ⟨g,0,rfl,?_,fun i x hx => ?_⟩⟩
  ·exact (h.lt g rfl).2
  ·have hi : i < l.length := (List.getElem?_eq_some_iff.1 hx).1
   rw [Nat.zero_add,h.cellAt i (by omega)]
   simp [hx]
theorem Rd.take (h : Rd V w v l) {ao : Option Addr} {cap n c : Nat} (hv : v = .slice ao l.length cap) (hn : n ≤ l.length) (hnc : n ≤ c) (hc : c ≤ maxLen) : Rd V w (.slice ao n c) (l.take n) := by
 obtain ⟨ao',cap',hv',h1,h2,h3⟩ := h
 rw [hv] at hv'
 injection hv' with e1 e2 e3
 subst e1 e3
 have hl : (l.take n).length = n := by rw [List.length_take];omega
 refine ⟨ao,c,by rw [hl],by omega,hc,fun hp => ?_⟩
 obtain ⟨b,off,e,hb,hcell⟩ := h3 (by omega)
 exact ⟨b,off,e,hb,fun i x hx => hcell i x (by
  rw [List.getElem?_take] at hx
  split at hx
  ·exact hx
  ·cases hx)⟩
theorem Rd.len (h : Rd V w v l) : l.length ≤ maxLen := by
 obtain ⟨_,_,_,h1,h2,_⟩ := h;omega
theorem Rd.at_ {ao : Option Addr} {n cap k : Nat} (h : Rd V w (.slice ao n cap) l) (hk : k < l.length) :
  ∃ b off,ao = some ⟨b,off,none⟩ ∧ b < w.heap.size ∧ ∀ i (hi : i < l.length),w.cell? ⟨b,off + i,none⟩ = some (V l[i]) := by
 obtain ⟨ao',cap',hv,h1,h2,h3⟩ := h
 injection hv with e1 e2 e3
 subst e1
 obtain ⟨b,off,e,hb,hc⟩ := h3 (by omega)
 exact ⟨b,off,e,hb,fun i hi => hc i _ (List.getElem?_eq_getElem hi)⟩
theorem Rd.form (h : Rd V w v l) : ∃ ao cap,v = .slice ao l.length cap ∧ l.length ≤ cap ∧ cap ≤ maxLen ∧ Rd V w (.slice ao l.length cap) l := by
 obtain ⟨ao,cap,rfl,h1,h2,h3⟩ := h
 exact ⟨ao,cap,rfl,h1,h2,⟨ao,cap,rfl,h1,h2,h3⟩⟩
end
theorem bcell {W w1 : World} (hb : Below W.heap.size W w1) : (∀ b o,b < W.heap.size → w1.cell? ⟨b,o,none⟩ = W.cell? ⟨b,o,none⟩) ∧ (∀ b o,b < W.heap.size → w1.frozen? ⟨b,o,none⟩ = W.frozen? ⟨b,o,none⟩) :=
 ⟨fun b o h => hb.cell (p := ⟨b,o,none⟩) h,fun b o h => hb.frozen (p := ⟨b,o,none⟩) h⟩
theorem hide {p : Prop} (h : p) : Hid p := h
theorem ret_int {k : IntKind} {a b : Int} (h : a = b) : Ending.returned (.int k a) = .returned (.int k b) := by rw [h]
section
variable {α : Type} {V : α → Value} {w W W1 : World} {v : Value} {l : List α}
theorem Rd.setNe (h : Rd V w v l) {p : Addr} {c : Value} (hp : w.cell? p = some c) (hc : ∀ x,V x ≠ c) (u : Value) : Rd V (w.setCell p u) v l := by
 obtain ⟨ao,cap,rfl,h1,h2,h3⟩ := h
 refine ⟨ao,cap,rfl,h1,h2,fun hl => ?_⟩
 obtain ⟨b,off,rfl,hb,hcell⟩ := h3 hl
 refine ⟨b,off,rfl,by simpa [World.setCell] using hb,fun i x hx => ?_⟩
 have := hcell i x hx
 rw [World.cell?_setCell_other w p _ u (fun e => by rw [← e] at this;rw [this] at hp;injection hp with hp;exact hc x hp)]
 exact this
theorem Rd.new {w : World} {t : TypeId} {cs : Array Value} {g n c : Nat} (l : List α) (hg : g = w.heap.size) (hn : n = l.length) (hnc : n ≤ c) (hm : c ≤ 9223372036854775807) (hcs : cs.toList = l.map V) : Rd V (w.alloc (.cells cs t)) (.slice (some ⟨g,0,none⟩) n c) l := by
 subst hg hn
 refine ⟨_,c,rfl,hnc,by unfold maxLen;omega,fun _ => ⟨w.heap.size,0,rfl,by simp,fun i x hx => ?_⟩⟩
 rw [Nat.zero_add,cell_of_row (w.alloc (.cells cs t)) w.heap.size i cs t (0,0) (heap_alloc_new w _)]
 rw [← Array.getElem?_toList,hcs,List.getElem?_map,hx];rfl
theorem Bel.al (h : Below w.heap.size w W) (o : Obj) : Below w.heap.size w (W.alloc o) := h.alloc h.size o
theorem Bel.to (h : Below w.heap.size w W) (hb : Below W.heap.size W W1) : Below w.heap.size w W1 := h.trans (hb.mono h.size)
theorem Bel.drN (h : Below w.heap.size w W) (n : Nat) : Below w.heap.size w (W.drewN n) := ⟨h.os,h.tape,h.output,h.size,h.block⟩
theorem Bel.st (h : Below w.heap.size w W) {p : Addr} (hp : w.heap.size ≤ p.block) (u : Value) : Below w.heap.size w (W.setCell p u) := h.setCell hp u
theorem Bel.one (o : Obj) (hb : Below (w.alloc o).heap.size (w.alloc o) W1) : Below w.heap.size w W1 := Bel.to (Bel.al (Below.refl _ _) o) hb
theorem Bel.two (o o' : Obj) (hb : Below ((w.alloc o).alloc o').heap.size ((w.alloc o).alloc o') W1) : Below w.heap.size w W1 := Bel.to (Bel.al (Bel.al (Below.refl _ _) o) o') hb
theorem Bel.three (o o' o'' : Obj) (hb : Below (((w.alloc o).alloc o').alloc o'').heap.size (((w.alloc o).alloc o').alloc o'') W1) : Below w.heap.size w W1 := Bel.to (Bel.al (Bel.al (Bel.al (Below.refl _ _) o) o') o'') hb
end
def Row (w : World) (g : Nat) (t : TypeId) (cs : List Value) : Prop := w.heap[g]? = some (.cells cs.toArray t (0,0))
def Pure (v : Value) (w : World) (e : Ending) (w' : World) : Prop := e = .returned v ∧ w = w'
def IntP (x c : Int) (w : World) (e : Ending) (w' : World) : Prop := e = .returned (.tuple #[.int .i64 x,.int .i64 c]) ∧ w = w'
def BoolB (b : Bool) (w : World) (e : Ending) (w' : World) : Prop := e = .returned (.bool b) ∧ Below w.heap.size w w'
def IntB (x : Int) (w : World) (e : Ending) (w' : World) : Prop := e = .returned (.int .i64 x) ∧ Below w.heap.size w w'
section
variable {α : Type} {V : α → Value} {w w' a : World} {g : Nat} {t : TypeId} {cs : List Value}
theorem Rd.shape {v : Value} {l : List α} (h : Rd V w v l) : ∃ ao n cap,v = .slice ao n cap := by
 obtain ⟨ao,cap,rfl,_⟩ := h
 exact ⟨_,_,_,rfl⟩
theorem Row.lt (h : Row w g t cs) : g < w.heap.size := by
 rcases Nat.lt_or_ge g w.heap.size with hlt | hge
 ·exact hlt
 ·unfold Row at h;rw [Array.getElem?_eq_none hge] at h;cases h
theorem Row.cell? (h : Row w g t cs) (i : Nat) : w.cell? ⟨g,i,none⟩ = cs[i]? := by
 have := cell_of_row w g i cs.toArray t (0,0) h
 rw [this];simp
theorem Row.cell (h : Row w g t cs) {i : Nat} (hi : i < cs.length) : w.cell? ⟨g,i,none⟩ = some cs[i] := by
 rw [h.cell? i];exact List.getElem?_eq_getElem hi
theorem Row.cellV {l : List α} (h : Row w g t (l.map V)) {i : Nat} (hi : i < l.length) : w.cell? ⟨g,i,none⟩ = some (V l[i]) := by
 rw [h.cell? i,List.getElem?_map,List.getElem?_eq_getElem hi];rfl
theorem Row.frozen (h : Row w g t cs) (i : Nat) : w.frozen? ⟨g,i,none⟩ = false := by
 unfold Row at h
 simp [World.frozen?,h]
theorem Row.new (w : World) (t : TypeId) (cs : List Value) : Row (w.alloc (.cells cs.toArray t)) w.heap.size t cs := heap_alloc_new w _
theorem Row.newOf {c : Array Value} (t : TypeId) (h : c.toList = cs) : Row (w.alloc (.cells c t)) w.heap.size t cs := by
 subst h;exact heap_alloc_new w _
theorem Row.drew (h : Row w g t cs) : Row w.drew g t cs := h
theorem Row.drewN (h : Row w g t cs) (n : Nat) : Row (w.drewN n) g t cs := h
theorem Row.alloc (h : Row w g t cs) (o : Obj) : Row (w.alloc o) g t cs := (Below.heap_alloc w o g h.lt).trans h
theorem Row.set (h : Row w g t cs) (i : Nat) (u : Value) : Row (w.setCell ⟨g,i,none⟩ u) g t (cs.set i u) := by
 unfold Row at h ⊢
 simp [World.setCell,Array.getElem?_modify,h]
theorem Row.setV {l : List α} (h : Row w g t (l.map V)) (i : Nat) (x : α) : Row (w.setCell ⟨g,i,none⟩ (V x)) g t ((l.set i x).map V) := by
 rw [List.map_set];exact h.set i _
theorem Row.far (h : Row w g t cs) {p : Addr} (hp : g ≠ p.block) (u : Value) : Row (w.setCell p u) g t cs := (Below.heap_setCell w p u g hp).trans h
theorem Row.below {B : Nat} (h : Row w g t cs) (hb : Below B w w') (hg : g < B) : Row w' g t cs := (hb.block g hg).trans h
theorem Row.keep (h : Row w g t cs) (hb : Below w.heap.size w w') : Row w' g t cs := (hb.block g h.lt).trans h
theorem Row.grown {row : Option Nat} (h : Row w g t cs) (hb : w.grownBy w' row) (hg : some g ≠ row) : Row w' g t cs := (hb.block g h.lt hg).trans h
theorem Row.rd {l : List α} (h : Row w g t (l.map V)) {n c : Nat} (hn : n ≤ l.length) (hnc : n ≤ c) (hm : c ≤ 9223372036854775807) : Rd V w (.slice (some ⟨g,0,none⟩) n c) (l.take n) := by
 have hl : (l.take n).length = n := by rw [List.length_take];omega
 refine ⟨_,c,by rw [hl],by omega,by unfold maxLen;omega,fun _ => ⟨g,0,rfl,h.lt,fun i x hx => ?_⟩⟩
 rw [Nat.zero_add,h.cell? i,List.getElem?_map]
 rw [List.getElem?_take] at hx
 split at hx
 ·rw [hx];rfl
 ·cases hx
theorem Row.rdAll {l : List α} (h : Row w g t (l.map V)) {n c : Nat} (hn : n = l.length) (hnc : n ≤ c) (hm : c ≤ 9223372036854775807) : Rd V w (.slice (some ⟨g,0,none⟩) n c) l := by
 have := h.rd (n := n) (by omega) hnc hm
 rwa [hn,List.take_length] at *
theorem Bel.cellOf (hb : Below w.heap.size w w') {p : Addr} {v : Value} (h : w.cell? p = some v) : w'.cell? p = some v := (hb.cell (World.block_lt_of_cell? w p h)).trans h
theorem Bel.frozenOf (hb : Below w.heap.size w w') {p : Addr} {v : Value} (h : w.cell? p = some v) (hf : w.frozen? p = false) : w'.frozen? p = false := (hb.frozen (World.block_lt_of_cell? w p h)).trans hf
theorem cell_alloc {p : Addr} {v : Value} (h : w.cell? p = some v) (o : Obj) : (w.alloc o).cell? p = some v := Bel.cellOf (Bel.al (Below.refl _ _) o) h
theorem frozen_alloc {p : Addr} {v : Value} (h : w.cell? p = some v) (hf : w.frozen? p = false) (o : Obj) : (w.alloc o).frozen? p = false := Bel.frozenOf (Bel.al (Below.refl _ _) o) h hf
theorem cell_far {p q : Addr} {v : Value} (h : w.cell? q = some v) (hne : q.block ≠ p.block) (u : Value) : (w.setCell p u).cell? q = some v := by
 rw [World.cell?_setCell_other w p q u (fun e => hne (by rw [e]))];exact h
theorem new_cell (w : World) (v : Value) (t : TypeId) : (w.alloc (.cells #[v] t)).cell? ⟨w.heap.size,0,none⟩ = some v := (Row.newOf (cs := [v]) t rfl).cell (by simp)
theorem new_frozen (w : World) (v : Value) (t : TypeId) : (w.alloc (.cells #[v] t)).frozen? ⟨w.heap.size,0,none⟩ = false := (Row.newOf (cs := [v]) t rfl).frozen 0
theorem set_cell {b o : Nat} {v : Value} (h : w.cell? ⟨b,o,none⟩ = some v) (u : Value) : (w.setCell ⟨b,o,none⟩ u).cell? ⟨b,o,none⟩ = some u := by
 go_simp
theorem Gb.refl (w : World) (row : Option Nat) : w.grownBy w row := ⟨rfl,rfl,rfl,Nat.le_refl _,fun _ _ _ => rfl⟩
theorem Gb.drewN {row : Option Nat} (h : a.grownBy w row) (n : Nat) : a.grownBy (w.drewN n) row := ⟨h.os,h.tape,h.output,h.size,h.block⟩
theorem Gb.alloc {row : Option Nat} (h : a.grownBy w row) (o : Obj) : a.grownBy (w.alloc o) row :=
 ⟨h.os,h.tape,h.output,Nat.le_trans h.size (by simp),fun i hi hne => (Below.heap_alloc w o i (Nat.lt_of_lt_of_le hi h.size)).trans (h.block i hi hne)⟩
theorem Gb.set (h : a.grownBy w (some g)) {p : Addr} (hp : p.block = g ∨ a.heap.size ≤ p.block) (u : Value) : a.grownBy (w.setCell p u) (some g) :=
 ⟨h.os,h.tape,h.output,by simpa [World.setCell] using h.size,fun i hi hne => (Below.heap_setCell w p u i (by
  rintro rfl
  rcases hp with hp | hp
  ·exact hne (by rw [hp])
  ·omega)).trans (h.block i hi hne)⟩
theorem Gb.cellOf (h : a.grownBy w (some g)) {b o : Nat} {v : Value} (hv : a.cell? ⟨b,o,none⟩ = some v) (hne : b ≠ g) : w.cell? ⟨b,o,none⟩ = some v :=
 h.cell hv (fun e => hne (by injection e))
theorem Gb.frozenOf (h : a.grownBy w (some g)) {b o : Nat} (hb : b < a.heap.size) (hne : b ≠ g) : w.frozen? ⟨b,o,none⟩ = a.frozen? ⟨b,o,none⟩ :=
 World.frozen?_of_block (h.block b hb (fun e => hne (by injection e)))
theorem Gb.bel {W : World} (hb : Below W.heap.size W a) (h : a.grownBy w (some g)) (hg : W.heap.size ≤ g) : Below W.heap.size W w :=
 hb.grown h hb.size (fun k hk => by injection hk with hk;omega)
end
def RdS {α : Type} (sz : Nat) (V : α → List Value) (w : World) (v : Value) (l : List α) : Prop :=
 ∃ ao cap,v = .slice ao l.length cap ∧ l.length ≤ cap ∧ cap ≤ maxLen ∧ (0 < l.length → ∃ b off,ao = some ⟨b,off,none⟩ ∧ b < w.heap.size ∧
  ∀ i x,l[i]? = some x → ∀ j u,(V x)[j]? = some u → w.cell? ⟨b,off + i * sz + j,none⟩ = some u)
section
variable {α : Type} {sz : Nat} {V : α → List Value} {w w' : World} {v : Value} {l : List α}
theorem RdS.below (h : RdS sz V w v l) (hb : Below w.heap.size w w') : RdS sz V w' v l := by
 obtain ⟨ao,cap,h1,h2,h3,h4⟩ := h
 refine ⟨ao,cap,h1,h2,h3,fun hp => ?_⟩
 obtain ⟨b,off,h5,h6,h7⟩ := h4 hp
 exact ⟨b,off,h5,Nat.lt_of_lt_of_le h6 hb.size,fun i x hx j u hu => (hb.cell (by exact h6)).trans (h7 i x hx j u hu)⟩
theorem RdS.shape (h : RdS sz V w v l) : ∃ ao cap,v = .slice ao l.length cap ∧ l.length ≤ cap ∧ cap ≤ maxLen := by
 obtain ⟨ao,cap,h1,h2,h3,-⟩ := h
 exact ⟨ao,cap,h1,h2,h3⟩
theorem RdS.at_ {ao : Option Addr} {n cap i : Nat} (h : RdS sz V w (.slice ao n cap) l) (hi : i < l.length) :
  ∃ b off,ao = some ⟨b,off,none⟩ ∧ b < w.heap.size ∧ ∀ i x,l[i]? = some x → ∀ j u,(V x)[j]? = some u → w.cell? ⟨b,off + i * sz + j,none⟩ = some u := by
 obtain ⟨ao',cap',h1,h2,h3,h4⟩ := h
 injection h1 with h1 _ _
 subst h1
 obtain ⟨b,off,h5,h6,h7⟩ := h4 (by omega)
 exact ⟨b,off,h5,h6,h7⟩
theorem RdS.take (h : RdS sz V w v l) {ao : Option Addr} {cap n c : Nat} (hv : v = .slice ao l.length cap) (hn : n ≤ l.length) (hnc : n ≤ c) (hc : c ≤ maxLen) : RdS sz V w (.slice ao n c) (l.take n) := by
 obtain ⟨ao',cap',h1,h2,h3,h4⟩ := h
 rw [hv] at h1
 injection h1 with h1 _ _
 subst h1
 have hl : (l.take n).length = n := by rw [List.length_take];omega
 refine ⟨ao,c,by rw [hl],by omega,hc,fun hp => ?_⟩
 obtain ⟨b,off,h5,h6,h7⟩ := h4 (by omega)
 refine ⟨b,off,h5,h6,fun i x hx j u hu => ?_⟩
 rw [List.getElem?_take] at hx
 split at hx
 ·exact h7 i x hx j u hu
 ·cases hx
end
theorem alloc_size (w : World) (o : Obj) : (w.alloc o).heap.size = w.heap.size + 1 := by simp
theorem Row.at2 (w : World) (o : Obj) (t : TypeId) (cs : List Value) : Row ((w.alloc o).alloc (.cells cs.toArray t)) (w.heap.size + 1) t cs := by
 have := Row.new (w.alloc o) t cs
 rwa [alloc_size] at this
theorem Row.at3 (w : World) (o o' : Obj) (t : TypeId) (cs : List Value) : Row (((w.alloc o).alloc o').alloc (.cells cs.toArray t)) (w.heap.size + 1 + 1) t cs := by
 have := Row.new ((w.alloc o).alloc o') t cs
 rwa [alloc_size,alloc_size] at this
def tierCells (t : TierD) : List Value := [.int .i64 t.main,.int .i64 t.bonus,.int .i64 t.extra,.int .i64 t.mode,.int .i64 t.kind,.int .i64 t.value]
structure AddonM where
 d : AddonD
 fv : Value
 pv : Value
def AddonM.cells (m : AddonM) : List Value := [.string m.d.name,.int .i64 m.d.kind,.int .i64 m.d.price,m.fv,.int .i64 m.d.digits,m.pv]
def AddonR (w : World) (m : AddonM) : Prop := Rd I64 w m.fv m.d.factors ∧ Rd I64 w m.pv m.d.prizes
theorem AddonR.below {w w' : World} {m : AddonM} (h : AddonR w m) (hb : Below w.heap.size w w') : AddonR w' m := ⟨h.1.below hb,h.2.below hb⟩
def AddonsR (w : World) (v : Value) (ms : List AddonM) : Prop := RdS 6 AddonM.cells w v ms ∧ ∀ (i : Nat) m,ms[i]? = some m → AddonR w m
theorem AddonsR.below {w w' : World} {v : Value} {ms : List AddonM} (h : AddonsR w v ms) (hb : Below w.heap.size w w') : AddonsR w' v ms :=
 ⟨h.1.below hb,fun i m hm => (h.2 i m hm).below hb⟩
def GameR (w : World) (av tv : Value) (ms : List AddonM) (g : GameD) : Prop := AddonsR w av ms ∧ ms.map (·.d) = g.addons ∧ RdS 6 tierCells w tv g.tiers
theorem GameR.below {w w' : World} {av tv : Value} {ms : List AddonM} {g : GameD} (h : GameR w av tv ms g) (hb : Below w.heap.size w w') : GameR w' av tv ms g :=
 ⟨h.1.below hb,h.2.1,h.2.2.below hb⟩
theorem GameR.alloc {w : World} {av tv : Value} {ms : List AddonM} {g : GameD} (h : GameR w av tv ms g) (o : Obj) : GameR (w.alloc o) av tv ms g := h.below (Bel.al (Below.refl _ _) o)
def gameCells (g : GameD) (av tv : Value) : List Value :=
 [.string g.name,.int .i64 g.kind,.int .i64 g.price,.int .i64 g.main,.int .i64 g.of,.int .i64 g.bonus,.int .i64 g.bonusOf,.int .i64 g.extra,.int .i64 g.draws,.int .i64 g.system,.int .i64 g.days,.int .i64 g.at_,.int .i64 g.close,.int .i64 g.cancel,.int .i64 g.expiry,.int .i64 g.pool,.int .i64 g.reserve,.int .i64 g.round,.int .i64 g.cap,.int .i64 g.rolls,av,tv]
def gameVal (g : GameD) (av tv : Value) : Value :=
 .agg #[.string g.name,.int .i64 g.kind,.int .i64 g.price,.int .i64 g.main,.int .i64 g.of,.int .i64 g.bonus,.int .i64 g.bonusOf,.int .i64 g.extra,.int .i64 g.draws,.int .i64 g.system,.int .i64 g.days,.int .i64 g.at_,.int .i64 g.close,.int .i64 g.cancel,.int .i64 g.expiry,.int .i64 g.pool,.int .i64 g.reserve,.int .i64 g.round,.int .i64 g.cap,.int .i64 g.rolls,av,tv]
def addonVal (m : AddonM) : Value := .agg #[.string m.d.name,.int .i64 m.d.kind,.int .i64 m.d.price,m.fv,.int .i64 m.d.digits,m.pv]
def tierVal (t : TierD) : Value := .agg #[.int .i64 t.main,.int .i64 t.bonus,.int .i64 t.extra,.int .i64 t.mode,.int .i64 t.kind,.int .i64 t.value]
end Go.Proofs.YtldikghldcefcaaGreat
end
section
set_option linter.unusedVariables false
set_option linter.unusedSimpArgs false
namespace Go.Proofs.YtldikghldcefcaaGreat
def limbs (n : Nat) : List Nat := if h : n = 0 then [] else n % 4294967296 :: limbs (n / 4294967296)
termination_by n
decreasing_by exact Nat.div_lt_self (by omega) (by omega)
def val : List Nat → Nat
 | [] => 0
 | x :: t => x + 4294967296 * val t
def Small (l : List Nat) : Prop := ∀ x ∈ l,x < 4294967296
theorem limbs_zero : limbs 0 = [] := by rw [limbs];simp
theorem limbs_pos {n : Nat} (h : n ≠ 0) : limbs n = n % 4294967296 :: limbs (n / 4294967296) := by rw [limbs,dif_neg h]
theorem val_limbs (n : Nat) : val (limbs n) = n := by
 induction n using Nat.strongRecOn with
 | _ n ih =>
  by_cases h : n = 0
  ·subst h;rw [limbs_zero];rfl
  ·rw [limbs_pos h,val,ih _ (Nat.div_lt_self (by omega) (by omega))];omega
theorem small_limbs (n : Nat) : Small (limbs n) := by
 induction n using Nat.strongRecOn with
 | _ n ih =>
  by_cases h : n = 0
  ·subst h;rw [limbs_zero];intro x hx;cases hx
  ·rw [limbs_pos h]
   intro x hx
   rcases List.mem_cons.1 hx with rfl | hx
   ·omega
   ·exact ih _ (Nat.div_lt_self (by omega) (by omega)) x hx
theorem small_cons {x : Nat} {t : List Nat} (h : Small (x :: t)) : x < 4294967296 ∧ Small t := ⟨h x (List.mem_cons_self ..),fun y hy => h y (List.mem_cons_of_mem _ hy)⟩
theorem small_get {l : List Nat} (h : Small l) {i : Nat} (hi : i < l.length) : l[i] < 4294967296 := h _ (List.getElem_mem hi)
theorem small_take {l : List Nat} (h : Small l) (k : Nat) : Small (l.take k) := fun x hx => h x (List.mem_of_mem_take hx)
theorem limbs_val_cons {x : Nat} {t : List Nat} (hx : x < 4294967296) (h : x ≠ 0 ∨ val t ≠ 0) : limbs (x + 4294967296 * val t) = x :: limbs (val t) := by
 rw [limbs_pos (by omega)]
 have h1 : (x + 4294967296 * val t) % 4294967296 = x := by omega
 have h2 : (x + 4294967296 * val t) / 4294967296 = val t := by omega
 rw [h1,h2]
theorem limbs_val {l : List Nat} (hs : Small l) (hl : ∀ (h : 0 < l.length),l[l.length - 1] ≠ 0) : limbs (val l) = l ∧ (0 < l.length → val l ≠ 0) := by
 induction l with
 | nil => exact ⟨limbs_zero,fun h => absurd h (by simp)⟩
 | cons x t ih =>
  obtain ⟨hx,ht⟩ := small_cons hs
  by_cases h0 : t.length = 0
  ·have : t = [] := List.eq_nil_of_length_eq_zero h0
   subst this
   have := hl (by simp)
   simp only [List.length_cons,List.length_nil,Nat.zero_add,Nat.sub_self,List.getElem_cons_zero] at this
   refine ⟨?_,fun _ => by simp only [val];omega⟩
   simp only [val]
   rw [limbs_pos (by omega),show (x + 4294967296 * 0) % 4294967296 = x by omega,show (x + 4294967296 * 0) / 4294967296 = 0 by omega,limbs_zero]
  ·have hl' : ∀ (h : 0 < t.length),t[t.length - 1] ≠ 0 := by
    intro h
    have := hl (by simp)
    simp only [List.length_cons,Nat.add_sub_cancel] at this
    rw [List.getElem_cons,dif_neg (by omega)] at this
    exact this
   obtain ⟨i1,i2⟩ := ih ht hl'
   have i3 := i2 (by omega)
   exact ⟨by rw [val,limbs_val_cons hx (Or.inr i3),i1],fun _ => by rw [val];omega⟩
theorem val_append (a b : List Nat) : val (a ++ b) = val a + 4294967296 ^ a.length * val b := by
 induction a with
 | nil => simp [val]
 | cons x t ih => rw [List.cons_append,val,val,ih,List.length_cons,Nat.pow_succ,Nat.mul_add,← Nat.mul_assoc,Nat.mul_comm (4294967296 ^ t.length) 4294967296];omega
theorem take_snoc {α : Type} (l : List α) (k : Nat) (h : k < l.length) : l.take (k + 1) = l.take k ++ [l[k]] := List.take_succ_eq_append_getElem h
theorem val_take_succ (l : List Nat) (k : Nat) (h : k < l.length) : val (l.take (k + 1)) = val (l.take k) + 4294967296 ^ k * l[k] := by
 rw [take_snoc l k h,val_append,List.length_take,Nat.min_eq_left (by omega),val,val];simp
theorem val_lt {l : List Nat} (hs : Small l) : val l < 4294967296 ^ l.length := by
 induction l with
 | nil => simp [val]
 | cons x t ih =>
  obtain ⟨hx,ht⟩ := small_cons hs
  have := ih ht
  rw [val,List.length_cons,Nat.pow_succ]
  omega
theorem limbs_take {l : List Nat} (hs : Small l) {n : Nat} (hn : 0 < n) (hl : n ≤ l.length) (h0 : l[n - 1] ≠ 0) : limbs (val (l.take n)) = l.take n := by
 refine (limbs_val (small_take hs n) fun h => ?_).1
 have : (l.take n).length = n := by rw [List.length_take];omega
 simp only [this,List.getElem_take]
 exact h0
theorem length_limbs_lt {n k : Nat} : n < 4294967296 ^ k ↔ (limbs n).length ≤ k := by
 induction k generalizing n with
 | zero =>
  rw [Nat.pow_zero]
  by_cases h : n = 0
  ·subst h;rw [limbs_zero];simp
  ·rw [limbs_pos h];simp;omega
 | succ k ih =>
  by_cases h : n = 0
  ·subst h;rw [limbs_zero];simp;exact Nat.pow_pos (by omega)
  ·rw [limbs_pos h,List.length_cons,Nat.add_le_add_iff_right,← ih,Nat.pow_succ,Nat.div_lt_iff_lt_mul (by omega)]
theorem limbs_inj {a b : Nat} (h : limbs a = limbs b) : a = b := by rw [← val_limbs a,h,val_limbs]
theorem limbs_last {n : Nat} (h : 0 < (limbs n).length) : (limbs n)[(limbs n).length - 1] ≠ 0 := by
 induction n using Nat.strongRecOn with
 | _ n ih =>
  by_cases h0 : n = 0
  ·subst h0;simp [limbs_zero] at h
  ·by_cases h1 : n / 4294967296 = 0
   ·have e : limbs n = [n % 4294967296] := by rw [limbs_pos h0,h1,limbs_zero]
    simp only [e,List.length_cons,List.length_nil,Nat.zero_add,Nat.sub_self,List.getElem_cons_zero]
    omega
   ·have := ih (n / 4294967296) (Nat.div_lt_self (by omega) (by omega)) (by rw [limbs_pos h1];simp)
    have e := limbs_pos h0
    simp only [e,List.length_cons,Nat.add_sub_cancel]
    rw [List.getElem_cons,dif_neg (by rw [limbs_pos h1];simp)]
    exact this
def choose : Nat → Nat → Nat
 | _,0 => 1
 | 0,_ + 1 => 0
 | n + 1,k + 1 => choose n k + choose n (k + 1)
theorem choose_zero (n : Nat) : choose n 0 = 1 := by cases n <;> rfl
theorem choose_succ (n k : Nat) : choose (n + 1) (k + 1) = choose n k + choose n (k + 1) := rfl
theorem choose_gt {n k : Nat} (h : n < k) : choose n k = 0 := by
 induction n generalizing k with
 | zero => cases k with
  | zero => omega
  | succ k => rfl
 | succ n ih => cases k with
  | zero => omega
  | succ k => rw [choose_succ,ih (by omega),ih (by omega)]
theorem choose_self (n : Nat) : choose n n = 1 := by
 induction n with
 | zero => rfl
 | succ n ih => rw [choose_succ,ih,choose_gt (by omega)]
theorem choose_pos {n k : Nat} (h : k ≤ n) : 0 < choose n k := by
  induction n generalizing k with
  | zero => obtain rfl : k = 0 := by omega
            rw [choose_zero]; omega
  | succ n ih => cases k with
    | zero => rw [choose_zero]; omega
    | succ k => rw [choose_succ]; have := ih (k := k) (by omega); omega
theorem choose_le (n k : Nat) : choose n k ≤ 2 ^ n := by
 induction n generalizing k with
 | zero => cases k <;> simp [choose]
 | succ n ih => cases k with
  | zero => rw [choose_zero];exact Nat.pow_pos (by omega)
  | succ k => rw [choose_succ,Nat.pow_succ];have := ih k;have := ih (k + 1);omega
theorem choose_mul (n k : Nat) : choose (n + 1) (k + 1) * (k + 1) = choose n k * (n + 1) := by
 induction n generalizing k with
 | zero => cases k with
  | zero => rfl
  | succ k => rw [choose_gt (by omega),choose_gt (by omega)];simp
 | succ n ih => cases k with
  | zero =>
   have := ih 0
   rw [choose_zero] at *
   rw [choose_succ,choose_zero]
   omega
  | succ k =>
   have h1 := ih k
   have h2 := ih (k + 1)
   rw [choose_succ (n + 1) (k + 1)]
   have h3 := choose_succ n k
   grind
theorem choose_symm {n k : Nat} (h : k ≤ n) : choose n (n - k) = choose n k := by
  induction n generalizing k with
  | zero => obtain rfl : k = 0 := by omega
            rfl
  | succ n ih => cases k with
    | zero => rw [Nat.sub_zero, choose_self, choose_zero]
    | succ k =>
      by_cases hk : k = n
      · subst hk; rw [Nat.sub_self, choose_zero, choose_self]
      · obtain ⟨j, hj⟩ : ∃ j, n - k = j + 1 := ⟨n - k - 1, by omega⟩
        have e : n + 1 - (k + 1) = j + 1 := by omega
        rw [e, choose_succ, choose_succ]
        have h1 := ih (k := k) (by omega)
        have h2 := ih (k := k + 1) (by omega)
        rw [hj] at h1
        rw [show n - (k + 1) = j by omega] at h2
        omega
theorem choose_lt_80 {n k : Nat} (h : n ≤ 80) : choose n k ≤ 1208925819614629174706176 := by
 have := choose_le n k
 have h2 : 2 ^ n ≤ 2 ^ 80 := Nat.pow_le_pow_right (by omega) h
 have : (2 : Nat) ^ 80 = 1208925819614629174706176 := by decide
 omega
theorem limbs_le_three {n : Nat} (h : n < 79228162514264337593543950336) : (limbs n).length ≤ 3 := length_limbs_lt.1 (by
 have : (4294967296 : Nat) ^ 3 = 79228162514264337593543950336 := by decide
 omega)
def chooseI (n k : Int) : Nat := if k < 0 then 0 else choose n.toNat k.toNat
def unrankL : Nat → Nat → Nat → Nat → List Int
 | 0,_,_,_ => []
 | m + 1,w,r,j => if j = 0 then [] else if r < choose m (j - 1) then (w : Int) :: unrankL m (w + 1) r (j - 1) else unrankL m (w + 1) (r - choose m (j - 1)) j
theorem unrankL_zero (m w r : Nat) : unrankL m w r 0 = [] := by cases m <;> simp [unrankL]
theorem unrankL_len {m w r j : Nat} (h : r < choose m j) : (unrankL m w r j).length = j := by
 induction m generalizing w r j with
 | zero => cases j with
  | zero => rfl
  | succ j => rw [choose_gt (by omega)] at h;omega
 | succ m ih => cases j with
  | zero => rw [unrankL_zero];rfl
  | succ j =>
   rw [choose_succ] at h
   rw [unrankL,if_neg (by omega),Nat.add_sub_cancel]
   split
   ·rw [List.length_cons,ih (by assumption)]
   ·exact ih (by omega)
def countG (g : GameD) : Nat := if g.kind = 2 then g.of.toNat ^ g.main.toNat else choose g.of.toNat g.main.toNat * choose g.bonusOf.toNat g.bonus.toNat
def countP (g : GameD) : Int × Int := if gameE g = 0 then ((countG g : Int),0) else (0,gameE g)
end Go.Proofs.YtldikghldcefcaaGreat
end
section
open Go.RowKit
set_option linter.unusedVariables false
set_option linter.unusedSimpArgs false
namespace Go.Proofs.YtldikghldcefcaaGreat
def GameAt (X : World) (b : Nat) (g : GameD) (av tv : Value) : Prop := Row X b 25 (gameCells g av tv)
def LineAt (X : World) (b : Nat) (mv bv : Value) : Prop := Row X b 58 [mv,bv]
def TierAt (X : World) (b : Nat) (t : TierD) : Prop := Row X b 73 (tierCells t)
def lineVal (mv bv : Value) : Value := .agg #[mv,bv]
def LineR (w : World) (mv bv : Value) (a b : List Int) : Prop := Rd I64 w mv a ∧ Rd I64 w bv b
section
variable {X Y : World} {b : Nat} {g : GameD} {av tv mv bv : Value} {t : TierD} {l k : List Int}
theorem LineR.below (h : LineR X mv bv l k) (hb : Below X.heap.size X Y) : LineR Y mv bv l k := ⟨h.1.below hb,h.2.below hb⟩
theorem GameAt.keep (h : GameAt X b g av tv) (hb : Below X.heap.size X Y) : GameAt Y b g av tv := Row.keep h hb
theorem LineAt.keep (h : LineAt X b mv bv) (hb : Below X.heap.size X Y) : LineAt Y b mv bv := Row.keep h hb
theorem TierAt.keep (h : TierAt X b t) (hb : Below X.heap.size X Y) : TierAt Y b t := Row.keep h hb
theorem LineAt.row (h : LineAt X b mv bv) : Row X b 58 [mv,bv] := h
theorem LineAt.store (h : LineAt X b mv bv) (u v : Value) : LineAt ((X.setCell ⟨b,0,none⟩ u).setCell ⟨b,1,none⟩ v) b u v := (Row.set h 0 u).set 1 v
theorem LineAt.main (h : LineAt X b mv bv) : X.cell? ⟨b,0,none⟩ = some mv := (Row.cell? h 0).trans rfl
theorem LineAt.bonus (h : LineAt X b mv bv) : X.cell? ⟨b,1,none⟩ = some bv := (Row.cell? h 1).trans rfl
theorem GameAt.name (h : GameAt X b g av tv) : X.cell? ⟨b,0,none⟩ = some (.string g.name) := (Row.cell? h 0).trans rfl
theorem GameAt.kind (h : GameAt X b g av tv) : X.cell? ⟨b,1,none⟩ = some (.int .i64 g.kind) := (Row.cell? h 1).trans rfl
theorem GameAt.price (h : GameAt X b g av tv) : X.cell? ⟨b,2,none⟩ = some (.int .i64 g.price) := (Row.cell? h 2).trans rfl
theorem GameAt.main (h : GameAt X b g av tv) : X.cell? ⟨b,3,none⟩ = some (.int .i64 g.main) := (Row.cell? h 3).trans rfl
theorem GameAt.of (h : GameAt X b g av tv) : X.cell? ⟨b,4,none⟩ = some (.int .i64 g.of) := (Row.cell? h 4).trans rfl
theorem GameAt.bonus (h : GameAt X b g av tv) : X.cell? ⟨b,5,none⟩ = some (.int .i64 g.bonus) := (Row.cell? h 5).trans rfl
theorem GameAt.bonusOf (h : GameAt X b g av tv) : X.cell? ⟨b,6,none⟩ = some (.int .i64 g.bonusOf) := (Row.cell? h 6).trans rfl
theorem GameAt.extra (h : GameAt X b g av tv) : X.cell? ⟨b,7,none⟩ = some (.int .i64 g.extra) := (Row.cell? h 7).trans rfl
theorem GameAt.draws (h : GameAt X b g av tv) : X.cell? ⟨b,8,none⟩ = some (.int .i64 g.draws) := (Row.cell? h 8).trans rfl
theorem GameAt.system (h : GameAt X b g av tv) : X.cell? ⟨b,9,none⟩ = some (.int .i64 g.system) := (Row.cell? h 9).trans rfl
theorem GameAt.addons (h : GameAt X b g av tv) : X.cell? ⟨b,20,none⟩ = some av := (Row.cell? h 20).trans rfl
theorem GameAt.tiers (h : GameAt X b g av tv) : X.cell? ⟨b,21,none⟩ = some tv := (Row.cell? h 21).trans rfl
end
theorem setRow_row {w : World} {g : Nat} {t : TypeId} {old : List Value} (cells : Array Value) (h : Row w g t old) : Row (w.setRow g cells) g t cells.toList := by
 have := setRow_heap w g old.toArray cells t (0,0) h
 unfold Row
 rw [this]
theorem setRow_grown (w : World) (g : Nat) (cells : Array Value) : w.grownBy (w.setRow g cells) (some g) := by
 refine ⟨rfl,rfl,rfl,by simp [World.setRow],fun k hk hne => ?_⟩
 have : g ≠ k := fun e => hne (by rw [e])
 simp [World.setRow,Array.getElem?_modify,this]
theorem wpList_store_whole {P : Program} {ops : Array Oper} {rest : List Oper} {o : Oper} {a : Act} {w : World} {Q : Exit → Act → World → Prop} (hgd : o.guard = none) (ty : TypeId) (x y : Operand) (ho : o.op = .store ty x y)
  (g : Nat) (cells : Array Value) (hx : a.eval x = .pointer (some ⟨g,0,none⟩)) (hy : a.eval y = .agg cells)
  (t : TypeId) (old : List Value) (hg : Row w g t old) (hi : (P.info? ty).map (·.size) = some cells.size) (hold : old.length = cells.size) (h1 : cells.all (·.oneCell') = true)
  (h : ∀ w',Row w' g t cells.toList → w.grownBy w' (some g) → wpList P ops Q rest (a.put o.dst undef) w') : wpList P ops Q (o :: rest) a w :=
 wpList_store_row hgd ty x y ho g cells hx hy t old.toArray hg hi (by simpa using hold) h1 (h _ (setRow_row cells hg) (setRow_grown w g cells))
theorem gameCells_one {g : GameD} {av tv : Value} (h1 : ∃ a n c,av = .slice a n c) (h2 : ∃ a n c,tv = .slice a n c) : (gameCells g av tv).toArray.all (·.oneCell') = true := by
 obtain ⟨_,_,_,rfl⟩ := h1
 obtain ⟨_,_,_,rfl⟩ := h2
 simp [gameCells,Value.oneCell']
theorem wpList_store_game {ops : Array Oper} {rest : List Oper} {o : Oper} {a : Act} {w : World} {Q : Exit → Act → World → Prop} (hgd : o.guard = none) (x y : Operand) (ho : o.op = .store 25 x y)
  (b : Nat) (g : GameD) (av tv : Value) (hx : a.eval x = .pointer (some ⟨b,0,none⟩)) (hy : a.eval y = gameVal g av tv) (h1 : ∃ a n c,av = .slice a n c) (h2 : ∃ a n c,tv = .slice a n c)
  (old : List Value) (hg : Row w b 25 old) (hold : old.length = 22)
  (h : ∀ w',GameAt w' b g av tv → w.grownBy w' (some b) → wpList Tryz.prog ops Q rest (a.put o.dst undef) w') : wpList Tryz.prog ops Q (o :: rest) a w :=
 wpList_store_whole hgd 25 x y ho b (gameCells g av tv).toArray hx (hy.trans rfl) 25 old hg (by kernel_rfl) hold (gameCells_one h1 h2) h
theorem RdS.nil {α : Type} {sz : Nat} {V : α → List Value} {w : World} : RdS sz V w (.slice none 0 0) [] := ⟨none,0,rfl,Nat.le_refl _,Nat.zero_le _,fun h => absurd h (by simp)⟩
theorem RdS.one {α : Type} {sz : Nat} {V : α → List Value} {w : World} {g : Nat} {t : TypeId} {x : α} (h : Row w g t (V x)) : RdS sz V w (.slice (some ⟨g,0,none⟩) 1 1) [x] := by
 refine ⟨_,1,rfl,Nat.le_refl _,by unfold maxLen;omega,fun _ => ⟨g,0,rfl,h.lt,fun i y hy j u hu => ?_⟩⟩
 have hi : i = 0 := by
  have := (List.getElem?_eq_some_iff.1 hy).1
  simpa using this
 subst hi
 simp at hy
 subst hy
 rw [show 0 + 0 * sz + j = j by omega,h.cell? j]
 exact hu
def GameB (g : GameD) (w : World) (e : Ending) (w' : World) : Prop := ∃ av tv ms,e = .returned (gameVal g av tv) ∧ GameR w' av tv ms g ∧ Below w.heap.size w w'
def Own {α : Type} (V : α → Value) (w : World) (base e : Nat) (v : Value) (l : List α) : Prop := w.ownsRow base e 1 v l.length (l.map V)
section
variable {α : Type} {V : α → Value} {w w' : World} {base e : Nat} {v : Value} {l : List α}
theorem Own.nil (w : World) (base e : Nat) : Own V w base e (.slice none 0 0) [] := World.ownsRow_nil w base e 1
theorem Own.rd (h : Own V w base e v l) : Rd V w v l := Rd.own h
theorem Own.alloc (h : Own V w base e v l) (o : Obj) : Own V (w.alloc o) base e v l := World.ownsRow.alloc h o
theorem Own.drewN (h : Own V w base e v l) (n : Nat) : Own V (w.drewN n) base e v l := h
theorem Own.grown {row : Option Nat} (h : Own V w base e v l) (hg : w.grownBy w' row) (hne : v.ownBlock = none ∨ v.ownBlock ≠ row) : Own V w' base e v l := World.ownsRow.kept h hg hne
theorem Own.keep (h : Own V w base e v l) (hb : Below w.heap.size w w') : Own V w' base e v l :=
 World.ownsRow.kept (row := none) h ⟨hb.os,hb.tape,hb.output,hb.size,fun k hk _ => hb.block k hk⟩ (by
  cases hv : v.ownBlock with
  | none => exact .inl rfl
  | some k => exact .inr (by simp))
theorem Own.lt (h : Own V w base e v l) : ∀ k,v.ownBlock = some k → base ≤ k ∧ k < w.heap.size := World.ownsRow.lt h
theorem Own.form (h : Own V w base e v l) (hl : 0 < l.length) : ∃ g cap,v = .slice (some ⟨g,0,none⟩) l.length cap ∧ base ≤ g ∧ g < w.heap.size := by
 have hlt := h.lt
 rcases h.2 with ⟨rfl,h0⟩ | ⟨g,cap,cur,rfl,hb,_⟩
 ·omega
 ·exact ⟨g,cap,rfl,hb,(hlt g rfl).2⟩
theorem Own.shape (h : Own V w base e v l) : ∃ ao cap,v = .slice ao l.length cap := by
 obtain ⟨ao,cap,rfl,_⟩ := h.rd
 exact ⟨_,_,rfl⟩
theorem Own.far (h : Own V w base e v l) {p : Addr} (hp : v.ownBlock ≠ some p.block) (u : Value) : Own V (w.setCell p u) base e v l := by
 obtain ⟨h1,h2⟩ := h
 refine ⟨h1,?_⟩
 rcases h2 with h2 | ⟨g,cap,cur,hv,hg,hh,r⟩
 ·exact Or.inl h2
 ·subst hv
  exact Or.inr ⟨g,cap,cur,rfl,hg,by rw [Below.heap_setCell _ _ _ _ (by intro h;exact hp (by rw [← h];rfl))];exact hh,r⟩
theorem Own.farRow {g : Nat} {t : TypeId} {cs : List Value} (h : Own V w base e v l) (hr : Row w g t cs) (hne : e ≠ t) (i : Nat) (u : Value) : Own V (w.setCell ⟨g,i,none⟩ u) base e v l := by
 refine h.far ?_ u
 obtain ⟨h1,h2⟩ := h
 rcases h2 with ⟨rfl,_⟩ | ⟨g',cap,cur,rfl,hg,hh,r⟩
 ·simp [Value.ownBlock]
 ·intro he
  have : g' = g := by simpa [Value.ownBlock] using he
  subst this
  unfold Row at hr
  rw [hh] at hr
  injection hr with hr
  injection hr with _ ht
  exact hne ht
end
def Fr {α : Type} (base : Nat) (v : Value) (l : List α) : Prop := l = [] ∨ ∃ k,v.ownBlock = some k ∧ base ≤ k
theorem Fr.nil {α : Type} {base : Nat} {v : Value} : Fr base v ([] : List α) := .inl rfl
theorem Fr.mono {α : Type} {base base' : Nat} {v : Value} {l : List α} (h : Fr base v l) (hb : base' ≤ base) : Fr base' v l := by
 rcases h with h | ⟨k,h,h2⟩
 ·exact .inl h
 ·exact .inr ⟨k,h,Nat.le_trans hb h2⟩
theorem Own.fr {α : Type} {V : α → Value} {w : World} {base e : Nat} {v : Value} {l : List α} (h : Own V w base e v l) : Fr base v l := by
 rcases Nat.eq_zero_or_pos l.length with h0 | h0
 ·exact .inl (List.eq_nil_of_length_eq_zero h0)
 ·obtain ⟨g,cap,rfl,hb,_⟩ := h.form h0
  exact .inr ⟨g,rfl,hb⟩
section
variable {P : Program} (w : World) {α : Type} {V : α → Value}
theorem run_append_rd (hone : ∀ x,(V x).oneCell' = true) (base : Nat) (t ty e : TypeId) (z : Value) (bytes : Nat) (ht : P.underlying t = some (.slice e)) (hi : (P.info? e).map (fun i => (i.zero,i.size,i.bytes)) = some (some z,1,bytes)) (hzs : z.cells.size = 1)
  (v : Value) (l : List α) (hown : Own V w base e v l) (u : Value) (l2 : List α) (hr : Rd V w u l2)
  (h63 : l.length + l2.length ≤ 9223372036854775807) (hbytes : (l.length + l2.length) * bytes ≤ 140737488355328) (hbase : base ≤ w.heap.size) :
  ∃ v' w',(Builtin.append_ #[t,t] ty #[v,u]).run P w = .ok v' w' ∧ Own V w' base e v' (l ++ l2) ∧ w.grownBy w' v.ownBlock ∧
   (v'.ownBlock = v.ownBlock ∨ v'.ownBlock = some w.heap.size) := by
 obtain ⟨i,hi,hz,hs,hb⟩ := info_parts hi
 obtain ⟨ao,cap,rfl,h1,h2,h3⟩ := hr
 by_cases hl : l2.length = 0
 ·have : l2 = [] := List.eq_nil_of_length_eq_zero hl
  subst this
  rw [List.append_nil,List.length_nil]
  cases ao with
  | none =>
   refine ⟨v,w,?_,hown,Gb.refl _ _,.inl rfl⟩
   have hown' := hown
   rcases hown.2 with ⟨rfl,h0⟩ | ⟨g,cap,cur,rfl,_,_,hnc,_⟩
   ·simp [Builtin.append_,run_underlying ht,sizeOf,typeInfo,hi,Builtin.lenOf,Builtin.firstCells]
   ·simp [Builtin.append_,run_underlying ht,sizeOf,typeInfo,hi,Builtin.lenOf,Builtin.firstCells,hnc,storeCells]
  | some ad =>
   obtain ⟨v',w',e1,e2,e3,_,e5⟩ := run_append_own_at (P := P) w base t ty e i z 1 bytes ht hi hz hs hb hzs (by omega) v l.length (l.map V) hown ad 0 cap [] (by simp) (by simp) (by simp) (by have := hown.1;unfold maxLen;omega) (by simpa using hbytes) hbase
   exact ⟨v',w',e1,by simpa [Own] using e2,e3,e5⟩
 ·obtain ⟨b,off,rfl,hbk,hc⟩ := h3 (by omega)
  obtain ⟨v',w',e1,e2,e3,_,e5⟩ := run_append_own_at (P := P) w base t ty e i z 1 bytes ht hi hz hs hb hzs (by omega) v l.length (l.map V) hown ⟨b,off,none⟩ l2.length cap (l2.map V) (by simp)
   (by
    intro j x hx
    rw [List.getElem?_map] at hx
    cases hj : l2[j]? with
    | none => rw [hj] at hx;cases hx
    | some y =>
     rw [hj] at hx
     simp only [Option.map_some,Option.some.injEq] at hx
     subst hx
     have := hc j y hj
     unfold Addr.add
     split
     ·next h0 => subst h0;exact this
     ·exact this)
   (by intro x hx;obtain ⟨y,_,rfl⟩ := List.mem_map.1 hx;exact hone y) (by unfold maxLen;omega) hbytes hbase
  exact ⟨v',w',e1,by simpa [Own] using e2,e3,e5⟩
theorem wpList_append_rd {ops : Array Oper} {rest : List Oper} {o : Oper} {a : Act} {Q : Exit → Act → World → Prop} (hgd : o.guard = none) (s x : Operand) (t : TypeId)
  (ho : o.op = .call { callee := .builtin .append,args := #[s,x],argTypes := #[t,t] })
  (hone : ∀ x,(V x).oneCell' = true) (base : Nat) (e : TypeId) (z : Value) (bytes : Nat) (ht : P.underlying t = some (.slice e)) (hi : (P.info? e).map (fun i => (i.zero,i.size,i.bytes)) = some (some z,1,bytes)) (hzs : z.cells.size = 1)
  (v : Value) (l : List α) (hs : a.eval s = v) (hown : Own V w base e v l) (u : Value) (l2 : List α) (hx : a.eval x = u) (hr : Rd V w u l2)
  (h63 : l.length + l2.length ≤ 9223372036854775807) (hbytes : (l.length + l2.length) * bytes ≤ 140737488355328) (hbase : base ≤ w.heap.size)
  (h : ∀ v' w',Own V w' base e v' (l ++ l2) → w.grownBy w' v.ownBlock → (v'.ownBlock = v.ownBlock ∨ v'.ownBlock = some w.heap.size) → wpList P ops Q rest (a.put o.dst v') w') : wpList P ops Q (o :: rest) a w := by
 refine wpList_plain hgd fun K hK => ?_
 obtain ⟨v',w',hr,h2,h3,h4⟩ := run_append_rd (P := P) w hone base t o.type e z bytes ht hi hzs v l hown u l2 hr h63 hbytes hbase
 unfold Oper.wp execOp
 simp only [ho,resolve,invoke,builtin,Sem.run_bind,Sem.run_pure,Result.andThen_ok,List.map_toArray,List.map_cons,List.map_nil,hs,hx,hr]
 exact hK _ _ (h v' w' h2 h3 h4)
end
theorem Rd.len_eq {α : Type} {V : α → Value} {w : World} {ao : Option Addr} {n cap : Nat} {l : List α} (h : Rd V w (.slice ao n cap) l) : n = l.length := by
 obtain ⟨ao',cap',e,-⟩ := h
 injection e
theorem Rd.drop {α : Type} {V : α → Value} {w : World} {ao : Option Addr} {cap k : Nat} {l : List α} (h : Rd V w (.slice ao l.length cap) l) (hk : k ≤ l.length) :
  Rd V w (sliced ao k l.length cap 1) (l.drop k) := by
 obtain ⟨ao',cap',e,h1,h2,h3⟩ := h
 injection e with e1 _ e3
 subst e1 e3
 have hl : (l.drop k).length = l.length - k := List.length_drop
 unfold sliced
 refine ⟨_,cap - k,by rw [hl],by omega,by omega,fun hp => ?_⟩
 obtain ⟨b,off,rfl,hb,hc⟩ := h3 (by omega)
 refine ⟨b,off + k,?_,hb,fun i x hx => ?_⟩
 ·rw [if_neg (by omega)]
  simp only [Option.map_some,Nat.mul_one,Addr.add]
  split
  ·next h0 => subst h0;rfl
  ·rfl
 ·rw [List.getElem?_drop] at hx
  have := hc (k + i) x hx
  rw [show off + k + i = off + (k + i) by omega];exact this
def Stay (w : World) (row : Option Nat) (P : World → Prop) : Prop := ∀ w',w.grownBy w' row → P w'
section
variable {w w' : World} {row row' : Option Nat} {P Q : World → Prop}
theorem Stay.mono (h : Stay w row P) (hPQ : ∀ X,P X → Q X) : Stay w row Q := fun X hX => hPQ X (h X hX)
theorem Stay.grow (h : Stay w row P) (hg : w.grownBy w' row) (hr : row' = row ∨ ∃ k,row' = some k ∧ w.heap.size ≤ k) : Stay w' row' P := by
 intro X hX
 refine h X ⟨hX.os.trans hg.os,hX.tape.trans hg.tape,hX.output.trans hg.output,Nat.le_trans hg.size hX.size,fun k hk hne => ?_⟩
 refine (hX.block k (Nat.lt_of_lt_of_le hk hg.size) ?_).trans (hg.block k hk hne)
 rcases hr with rfl | ⟨m,rfl,hm⟩
 ·exact hne
 ·intro e;injection e with e;omega
theorem Stay.keep (h : Stay w row P) (hb : Below w.heap.size w w') : Stay w' row P := by
 intro X hX
 refine h X ⟨hX.os.trans hb.os,hX.tape.trans hb.tape,hX.output.trans hb.output,Nat.le_trans hb.size hX.size,fun k hk hne => ?_⟩
 exact (hX.block k (Nat.lt_of_lt_of_le hk hb.size) hne).trans (hb.block k hk)
theorem Stay.below (h : ∀ X,Below w.heap.size w X → P X) (hb : Below w.heap.size w w') (hr : ∀ k,row = some k → w.heap.size ≤ k) : Stay w' row P := by
 intro X hX
 exact h X (hb.grown hX hb.size hr)
end
def OwnS {α : Type} (sz : Nat) (V : α → List Value) (R : World → α → Prop) (w : World) (base e : Nat) (v : Value) (l : List α) : Prop :=
 w.ownsRow base e sz v l.length (l.flatMap V) ∧ ∀ x ∈ l,Stay w v.ownBlock fun X => R X x
theorem flatS_len {α : Type} {sz : Nat} {V : α → List Value} (hV : ∀ x,(V x).length = sz) (l : List α) : (l.flatMap V).length = l.length * sz := by
 induction l with
 | nil => simp
 | cons x r ih => rw [List.flatMap_cons,List.length_append,ih,hV,List.length_cons,Nat.add_mul];omega
theorem flatS_at {α : Type} {sz : Nat} {V : α → List Value} (hV : ∀ x,(V x).length = sz) (l : List α) (i j : Nat) (x : α) (u : Value) (hx : l[i]? = some x) (hu : (V x)[j]? = some u) : (l.flatMap V)[i * sz + j]? = some u := by
 induction l generalizing i with
 | nil => simp at hx
 | cons y r ih =>
  rw [List.flatMap_cons]
  have hj : j < sz := by rw [← hV x];exact (List.getElem?_eq_some_iff.1 hu).1
  cases i with
  | zero =>
   simp at hx
   subst hx
   rw [Nat.zero_mul,Nat.zero_add,List.getElem?_append_left (by rw [hV];exact hj)]
   exact hu
  | succ i =>
   rw [List.getElem?_append_right (by rw [hV,Nat.add_mul];omega),hV,show (i + 1) * sz + j - sz = i * sz + j by rw [Nat.add_mul];omega]
   exact ih i (by simpa using hx)
theorem flatS_inv {α : Type} {sz : Nat} {V : α → List Value} (hV : ∀ x,(V x).length = sz) (l : List α) (j : Nat) (u : Value) (h : (l.flatMap V)[j]? = some u) : ∃ (i r : Nat) (x : α),j = i * sz + r ∧ l[i]? = some x ∧ (V x)[r]? = some u := by
 induction l generalizing j with
 | nil => simp at h
 | cons y q ih =>
  rw [List.flatMap_cons] at h
  by_cases hj : j < sz
  ·rw [List.getElem?_append_left (by rw [hV];exact hj)] at h
   exact ⟨0,j,y,by omega,rfl,h⟩
  ·rw [List.getElem?_append_right (by rw [hV];omega),hV] at h
   obtain ⟨i,r,x,h1,h2,h3⟩ := ih _ h
   exact ⟨i + 1,r,x,by rw [Nat.add_mul];omega,h2,h3⟩
section
variable {α : Type} {sz : Nat} {V : α → List Value} {R : World → α → Prop} {w w' : World} {base e : Nat} {v : Value} {l : List α}
theorem OwnS.nil (w : World) (base e : Nat) : OwnS sz V R w base e (.slice none 0 0) [] := ⟨World.ownsRow_nil w base e sz,fun x hx => by cases hx⟩
theorem OwnS.lt (h : OwnS sz V R w base e v l) : ∀ k,v.ownBlock = some k → base ≤ k ∧ k < w.heap.size := World.ownsRow.lt h.1
theorem OwnS.shape (h : OwnS sz V R w base e v l) : ∃ ao cap,v = .slice ao l.length cap := by
 rcases h.1.2 with ⟨rfl,h0⟩ | ⟨g,cap,cur,rfl,_⟩
 ·exact ⟨none,0,by rw [h0]⟩
 ·exact ⟨_,_,rfl⟩
theorem OwnS.keep (h : OwnS sz V R w base e v l) (hb : Below w.heap.size w w') : OwnS sz V R w' base e v l :=
 ⟨World.ownsRow.kept h.1 (row := none) ⟨hb.os,hb.tape,hb.output,hb.size,fun k hk _ => hb.block k hk⟩ (by cases hv : v.ownBlock <;> simp),fun x hx => (h.2 x hx).keep hb⟩
theorem OwnS.rd (hV : ∀ x,(V x).length = sz) (h : OwnS sz V R w base e v l) : RdS sz V w v l := by
 rcases h.1.2 with ⟨rfl,h0⟩ | ⟨g,cap,cur,rfl,hb,hg,hc,hm,hs,ht⟩
 ·exact ⟨none,0,by rw [h0],by omega,by decide,fun hp => by omega⟩
 ·refine ⟨_,cap,rfl,hc,hm,fun hp => ⟨g,0,rfl,(Array.getElem?_eq_some_iff.1 hg).1,fun i x hx j u hu => ?_⟩⟩
  have h1 := flatS_at hV l i j x u hx hu
  rw [Nat.zero_add]
  have h2 := World.ownsRow.cells h.1 (g := g) rfl _ _ h1
  unfold Addr.add at h2
  split at h2
  ·next h0 => rw [h0];exact h2
  ·simpa using h2
theorem OwnS.map {R' : World → α → Prop} (h : OwnS sz V R w base e v l) (hR : ∀ X x,R X x → R' X x) : OwnS sz V R' w base e v l := ⟨h.1,fun x hx => (h.2 x hx).mono fun X => hR X x⟩
end
section
variable {P : Program} (w : World) {α : Type} {sz : Nat} {V : α → List Value} {R : World → α → Prop}
theorem run_appendS (hV : ∀ x,(V x).length = sz) (base : Nat) (t ty e : TypeId) (z : Value) (bytes : Nat) (ht : P.underlying t = some (.slice e)) (hi : (P.info? e).map (fun i => (i.zero,i.size,i.bytes)) = some (some z,sz,bytes)) (hzs : z.cells.size = sz) (hsz : 0 < sz)
  (v : Value) (l : List α) (hown : OwnS sz V R w base e v l) (u : Value) (l2 : List α) (hr : RdS sz V w u l2) (hR : ∀ x ∈ l2,Stay w v.ownBlock fun X => R X x) (hone : ∀ x ∈ l2,∀ u ∈ V x,u.oneCell' = true)
  (h63 : l.length + l2.length ≤ 9223372036854775807) (hbytes : (l.length + l2.length) * bytes ≤ 140737488355328) (hbase : base ≤ w.heap.size) :
  ∃ v' w',(Builtin.append_ #[t,t] ty #[v,u]).run P w = .ok v' w' ∧ OwnS sz V R w' base e v' (l ++ l2) ∧ w.grownBy w' v.ownBlock ∧
   (v'.ownBlock = v.ownBlock ∨ v'.ownBlock = some w.heap.size) := by
 obtain ⟨i,hi,hz,hs,hb⟩ := info_parts hi
 obtain ⟨ao,cap,rfl,h1,h2,h3⟩ := hr
 have fin : ∀ v' w',w'.ownsRow base e sz v' (l ++ l2).length ((l ++ l2).flatMap V) → w.grownBy w' v.ownBlock → (v'.ownBlock = v.ownBlock ∨ v'.ownBlock = some w.heap.size) → OwnS sz V R w' base e v' (l ++ l2) := by
  intro v' w' e2 e3 e5
  refine ⟨e2,fun x hx => ?_⟩
  have hr : v'.ownBlock = v.ownBlock ∨ ∃ k,v'.ownBlock = some k ∧ w.heap.size ≤ k := e5.imp id fun h => ⟨_,h,Nat.le_refl _⟩
  rcases List.mem_append.1 hx with hx | hx
  ·exact (hown.2 x hx).grow e3 hr
  ·exact (hR x hx).grow e3 hr
 by_cases hl : l2.length = 0
 ·have : l2 = [] := List.eq_nil_of_length_eq_zero hl
  subst this
  cases ao with
  | none =>
   refine ⟨v,w,?_,by rw [List.append_nil];exact hown,Gb.refl _ _,.inl rfl⟩
   have hown' := hown.1
   rcases hown.1.2 with ⟨rfl,h0⟩ | ⟨g,cap,cur,rfl,_,_,hnc,_⟩
   ·simp [Builtin.append_,run_underlying ht,sizeOf,typeInfo,hi,Builtin.lenOf,Builtin.firstCells]
   ·simp [Builtin.append_,run_underlying ht,sizeOf,typeInfo,hi,Builtin.lenOf,Builtin.firstCells,hnc,storeCells]
  | some ad =>
   obtain ⟨v',w',e1,e2,e3,_,e5⟩ := run_append_own_at (P := P) w base t ty e i z sz bytes ht hi hz hs hb hzs hsz v l.length (l.flatMap V) hown.1 ad 0 cap [] (by simp) (by simp) (by simp) (by have := h63;unfold maxLen;omega) (by simpa using hbytes) hbase
   exact ⟨v',w',e1,fin v' w' (by simpa using e2) e3 e5,e3,e5⟩
 ·obtain ⟨b,off,rfl,hbk,hc⟩ := h3 (by omega)
  obtain ⟨v',w',e1,e2,e3,_,e5⟩ := run_append_own_at (P := P) w base t ty e i z sz bytes ht hi hz hs hb hzs hsz v l.length (l.flatMap V) hown.1 ⟨b,off,none⟩ l2.length cap (l2.flatMap V) (flatS_len hV l2)
   (by
    intro j x hx
    obtain ⟨i,r,y,ej,hy,hu⟩ := flatS_inv hV l2 j x hx
    have h10 := hc i y hy r x hu
    subst ej
    rw [show off + i * sz + r = off + (i * sz + r) by omega] at h10
    unfold Addr.add
    split
    ·next h0 => rw [h0] at h10;exact h10
    ·exact h10)
   (by intro x hx;obtain ⟨y,hy9,hy⟩ := List.mem_flatMap.1 hx;exact hone y hy9 x hy) (by unfold maxLen;omega) hbytes hbase
  exact ⟨v',w',e1,fin v' w' (by rw [List.length_append,List.flatMap_append];exact e2) e3 e5,e3,e5⟩
theorem wpList_appendS {ops : Array Oper} {rest : List Oper} {o : Oper} {a : Act} {Q : Exit → Act → World → Prop} (hgd : o.guard = none) (s x : Operand) (t : TypeId)
  (ho : o.op = .call { callee := .builtin .append,args := #[s,x],argTypes := #[t,t] })
  (hV : ∀ x,(V x).length = sz) (base : Nat) (e : TypeId) (z : Value) (bytes : Nat) (ht : P.underlying t = some (.slice e)) (hi : (P.info? e).map (fun i => (i.zero,i.size,i.bytes)) = some (some z,sz,bytes)) (hzs : z.cells.size = sz) (hsz : 0 < sz)
  (v : Value) (l : List α) (hs : a.eval s = v) (hown : OwnS sz V R w base e v l) (u : Value) (l2 : List α) (hx : a.eval x = u) (hr : RdS sz V w u l2) (hR : ∀ x ∈ l2,Stay w v.ownBlock fun X => R X x) (hone : ∀ x ∈ l2,∀ u ∈ V x,u.oneCell' = true)
  (h63 : l.length + l2.length ≤ 9223372036854775807) (hbytes : (l.length + l2.length) * bytes ≤ 140737488355328) (hbase : base ≤ w.heap.size)
  (h : ∀ v' w',OwnS sz V R w' base e v' (l ++ l2) → w.grownBy w' v.ownBlock → (v'.ownBlock = v.ownBlock ∨ v'.ownBlock = some w.heap.size) → wpList P ops Q rest (a.put o.dst v') w') : wpList P ops Q (o :: rest) a w := by
 refine wpList_plain hgd fun K hK => ?_
 obtain ⟨v',w',hr,h2,h3,h4⟩ := run_appendS (P := P) w hV base t o.type e z bytes ht hi hzs hsz v l hown u l2 hr hR hone h63 hbytes hbase
 unfold Oper.wp execOp
 simp only [ho,resolve,invoke,builtin,Sem.run_bind,Sem.run_pure,Result.andThen_ok,List.map_toArray,List.map_cons,List.map_nil,hs,hx,hr]
 exact hK _ _ (h v' w' h2 h3 h4)
theorem rdS_one {h : Nat} {c : Nat} {t : TypeId} {x : α} (hr : Row w h t (V x)) (hc : 1 ≤ c) (hm : c ≤ maxLen) : RdS sz V w (.slice (some ⟨h,0,none⟩) 1 c) [x] := by
 refine ⟨_,c,rfl,hc,hm,fun _ => ⟨h,0,rfl,hr.lt,fun i y hy j u hu => ?_⟩⟩
 cases i with
 | zero =>
  simp at hy
  subst hy
  rw [Nat.zero_mul,Nat.zero_add,hr.cell?]
  exact hu
 | succ i => simp at hy
end
end Go.Proofs.YtldikghldcefcaaGreat
end
section
set_option linter.unusedVariables false
set_option linter.unusedSimpArgs false
namespace Go.Proofs.YtldikghldcefcaaGreat
open Go.RowKit
def NV (w : World) (v : Value) (n : Nat) : Prop := Rd U32 w v (limbs n)
def SomeNat (n : Nat) (w : World) (e : Ending) (w' : World) : Prop := ∃ v,e = .returned (.agg #[v]) ∧ NV w' v n ∧ Below w.heap.size w w'
def Nat2 (r : Nat) (w : World) (e : Ending) (w' : World) : Prop := ∃ (u : Value) (c : Int),e = .returned (.tuple #[.agg #[u],.int .i64 c]) ∧ Hid (c = if (limbs r).length ≤ 64 then 0 else 9) ∧ NV w' u (if (limbs r).length ≤ 64 then r else 0) ∧ Below w.heap.size w w'
theorem trimmed (v : Value) (l : List Nat) (w : World) (h : Rd U32 w v l) (hs : Small l) :
  Calls Tryz.prog 108 #[v] w (SomeNat (val l) w) := by
 obtain ⟨ao,cap,rfl,hlc,hcm,hr⟩ := h.form
 have hcm : cap ≤ 9223372036854775807 := by unfold maxLen at hcm;omega
 go_enter Tryz.func108,Tryz.ntmps108
 go_wp2
 go_loop [3] (fun t => ∃ n : Nat,n ≤ l.length ∧ t = .int .i64 n ∧ Hid (val (l.take n) = val l)) (fun t => (intOf t).toNat)
 case atStart => exact ⟨l.length,Nat.le_refl _,rfl,by show val (l.take l.length) = val l;rw [List.take_length]⟩
 case round =>
  obtain ⟨n,hn,rfl,hv⟩ := hrel
  by_cases h0 : n = 0
  ·subst h0
   have HZ := hide (show val l = 0 by rw [← hv.out];simp [val])
   clear hv
   go_wp2
   refine bodyPost_ret (v := .agg #[.slice none 0 0]) (by simp [results,Tryz.results108,go_sem]) rfl ⟨_,rfl,?_,(Below.refl _ _).alloc (Nat.le_refl _) _⟩
   show Rd U32 _ _ (limbs (val l))
   rw [HZ.out,limbs_zero]
   exact Rd.nil
  ·have hk : n - 1 < l.length := by omega
   obtain ⟨b,off,rfl,hb,hc⟩ := hr.at_ hk
   have hc1 := hc (n - 1) hk
   clear hc
   by_cases h1 : l[n - 1] = 0
   ·have hn1 : Hid (val (l.take (n - 1)) = val l) := by
     show _ = _
     rw [← hv.out]
     have := val_take_succ l (n - 1) hk
     rw [h1,Nat.sub_add_cancel (by omega)] at this
     rw [this];simp
    have h1' : ((l[n - 1] : Nat) : Int) = 0 := by omega
    go_wp2
    go_round
    case rel => exact ⟨n - 1,by omega,by go_num,hn1⟩
    case measure => simp [intOf];omega
   ·have h1' : (((l[n - 1] : Nat) : Int) == 0) = false := by simpa using h1
    have hl := limbs_take hs (by omega : 0 < n) hn h1
    rw [hv.out] at hl
    have HL := hide hl
    have hcut := hr.take (n := n) (c := n) rfl hn (Nat.le_refl _) (by unfold maxLen;omega)
    clear h1 hl hv
    go_wp2
    refine bodyPost_ret (v := .agg #[.slice (some ⟨b,off,none⟩) n n]) (by simp [results,Tryz.results108,go_sem]) rfl ⟨_,rfl,?_,(Below.refl _ _).alloc (Nat.le_refl _) _⟩
    show Rd U32 _ _ (limbs (val l))
    rw [HL.out]
    exact hcut.alloc _
theorem valid (v : Value) (n : Nat) (w : World) (h : NV w v n) (hn : (limbs n).length ≤ 64) :
  Calls Tryz.prog 75 #[.agg #[v]] w fun e w' => e = .returned (.bool true) ∧ Below w.heap.size w w' := by
 obtain ⟨ao,cap,rfl,hlc,hcm,hr⟩ := Rd.form h
 have hcm : cap ≤ 9223372036854775807 := by unfold maxLen at hcm;omega
 by_cases h0 : (limbs n).length = 0
 ·go_enter Tryz.func75,Tryz.ntmps75
  go_wp2
  go_ret
  exact ⟨rfl,(Below.refl _ _).alloc (Nat.le_refl _) _⟩
 ·have hl := limbs_last (n := n) (by omega)
  have hk : (limbs n).length - 1 < (limbs n).length := by omega
  obtain ⟨b,off,rfl,hb,hc⟩ := hr.at_ hk
  have hc1 := hc _ hk
  clear hc
  have hx : ((((limbs n)[(limbs n).length - 1] : Nat) : Int) != 0) = true := by simpa using hl
  clear hl
  go_enter Tryz.func75,Tryz.ntmps75
  go_wp2
  go_ret
  exact ⟨rfl,(Below.refl _ _).alloc (Nat.le_refl _) _⟩
theorem bounded (v : Value) (l : List Nat) (w : World) (h : Rd U32 w v l) (hs : Small l) :
  Calls Tryz.prog 80 #[v] w (Nat2 (val l) w) := by
 go_enter Tryz.func80,Tryz.ntmps80
 go_wp2_with fail
 refine (trimmed _ l _ (h.alloc _) hs).mono ?_
 rintro e w1 ⟨u,rfl,hu,hb⟩
 obtain ⟨hc,hf⟩ := bcell hb
 have hz : w.heap.size < w1.heap.size := by have := hb.size;simp at this;omega
 obtain ⟨ao,cap,rfl,hlc,hcm,hr⟩ := Rd.form hu
 have hc0 : w1.cell? ⟨w.heap.size,0,none⟩ = some (.slice none 0 0) := by rw [hc _ _ (by simp)];simp
 have hb0 := Bel.one _ hb
 by_cases h64 : (limbs (val l)).length ≤ 64
 ·have hu' := (hu.setNe hc0 (fun _ h => by cases h) (Value.slice ao (limbs (val l)).length cap)).alloc (Obj.cells #[Value.slice ao (limbs (val l)).length cap] 30)
  go_wp2
  refine bodyPost_ret (v := .tuple #[.agg #[.slice ao (limbs (val l)).length cap],.int .i64 0]) (by simp [results,Tryz.results80,go_sem,hc0,hz]) rfl ⟨_,_,rfl,by show _ = _;rw [if_pos h64],by rw [if_pos h64];exact hu',Bel.al (Bel.st hb0 (Nat.le_refl _) _) _⟩
 ·go_wp2
  refine bodyPost_ret (v := .tuple #[.agg #[.slice none 0 0],.int .i64 9]) (by simp [results,Tryz.results80,go_sem,hc0,hz]) rfl ⟨_,_,rfl,by show _ = _;rw [if_neg h64],?_,Bel.al (Bel.st hb0 (Nat.le_refl _) _) _⟩
  rw [if_neg h64]
  show Rd U32 _ _ (limbs 0)
  rw [limbs_zero]
  exact Rd.nil
def prodL : List Nat → Nat
 | [] => 1
 | x :: t => x * prodL t
theorem prodL_snoc (l : List Nat) (x : Nat) : prodL (l ++ [x]) = prodL l * x := by
 induction l with
 | nil => simp [prodL]
 | cons y t ih => rw [List.cons_append,prodL,prodL,ih,Nat.mul_assoc]
theorem prodL_take (l : List Nat) (k : Nat) (h : k < l.length) : prodL (l.take (k + 1)) = prodL (l.take k) * l[k] := by rw [List.take_succ_eq_append_getElem h,prodL_snoc]
theorem prodL_replicate (n x : Nat) : prodL (List.replicate n x) = x ^ n := by
 induction n with
 | zero => rfl
 | succ n ih => rw [List.replicate_succ,prodL,ih,Nat.pow_succ,Nat.mul_comm]
def limS (l : List Nat) : Nat := (l.map fun n => (limbs n).length).sum
theorem limbs_mul (a b : Nat) : (limbs (a * b)).length ≤ (limbs a).length + (limbs b).length := by
 rw [← length_limbs_lt,Nat.pow_add]
 have h1 := length_limbs_lt.2 (Nat.le_refl (limbs a).length)
 have h2 := length_limbs_lt.2 (Nat.le_refl (limbs b).length)
 exact Nat.mul_lt_mul_of_lt_of_lt h1 h2
theorem limbs_one_len : (limbs 1).length = 1 := by rw [limbs_pos (by omega)];simp [limbs_zero]
theorem limS_prod (l : List Nat) : (limbs (prodL l)).length ≤ limS l + 1 := by
 induction l with
 | nil => show (limbs 1).length ≤ 0 + 1;rw [limbs_one_len];omega
 | cons x t ih =>
  rw [prodL]
  have h := limbs_mul x (prodL t)
  have e : limS (x :: t) = (limbs x).length + limS t := by simp [limS]
  omega
theorem limS_take (l : List Nat) (k : Nat) : limS (l.take k) ≤ limS l := by
 induction l generalizing k with
 | nil => simp
 | cons x t ih =>
  cases k with
  | zero => simp [limS]
  | succ k =>
   have h := ih k
   have e1 : limS (x :: t) = (limbs x).length + limS t := by simp [limS]
   have e2 : limS (x :: t.take k) = (limbs x).length + limS (t.take k) := by simp [limS]
   rw [List.take_succ_cons,e1,e2]
   omega
theorem limS_mem {l : List Nat} {x : Nat} (h : x ∈ l) : (limbs x).length ≤ limS l := by
 induction l with
 | nil => cases h
 | cons y t ih =>
  have e : limS (y :: t) = (limbs y).length + limS t := by simp [limS]
  rcases List.mem_cons.1 h with rfl | h
  ·omega
  ·have := ih h;omega
theorem limS_pre (l : List Nat) (k : Nat) : (limbs (prodL (l.take k))).length ≤ limS l + 1 := Nat.le_trans (limS_prod _) (Nat.add_le_add_right (limS_take l k) 1)
theorem limS_le {l : List Nat} {c : Nat} (h : ∀ x ∈ l,(limbs x).length ≤ c) : limS l ≤ l.length * c := by
 induction l with
 | nil => simp [limS]
 | cons x t ih =>
  have e : limS (x :: t) = (limbs x).length + limS t := by simp [limS]
  have h1 := ih fun y hy => h y (List.mem_cons_of_mem _ hy)
  have h2 := h x List.mem_cons_self
  rw [e,List.length_cons,Nat.add_mul]
  omega
abbrev NatM := Value × Nat
def natC (p : NatM) : List Value := [p.1]
def NatsR (w : World) (v : Value) (ps : List NatM) : Prop := RdS 1 natC w v ps ∧ ∀ p ∈ ps,NV w p.1 p.2
theorem NatsR.below {w w' : World} {v : Value} {ps : List NatM} (h : NatsR w v ps) (hb : Below w.heap.size w w') : NatsR w' v ps := ⟨h.1.below hb,fun p hp => Rd.below (h.2 p hp) hb⟩
theorem infoNat : (Tryz.prog.info? 30).map (fun i => (i.zero,i.size,i.bytes)) = some (some (.agg #[.slice none 0 0]),1,24) := by kernel_rfl
theorem wpList_make_one {P : Program} (w : World) {ops : Array Oper} {rest : List Oper} {o : Oper} {a : Act} {Q : Exit → Act → World → Prop}
  (hg : o.guard = none) (l c : Operand) (t : TypeId) (hop : o.op = Op.makeSlice t l c)
  (e : TypeId) (z : Value) (bytes : Nat) (h1 : P.underlying t = some (.slice e)) (h2 : (P.info? e).map (fun i => (i.zero,i.size,i.bytes)) = some (some (.agg #[z]),1,bytes))
  (kl kc : IntKind) (L C : Int) (n : Nat) (hl : a.eval l = .int kl L) (hc : a.eval c = .int kc C) (hL : L = (n : Int)) (hC : C = (n : Int)) (b2 : bytes * n ≤ 281474976710656) (b3 : n ≤ 9223372036854775807)
  (hK : ∀ w',Row w' w.heap.size e (List.replicate n z) → Below w.heap.size w w' → w'.heap.size = w.heap.size + 1 → wpList P ops Q rest (a.put o.dst (.slice (some ⟨w.heap.size,0,none⟩) n n)) w') :
  wpList P ops Q (o :: rest) a w := by
 obtain ⟨i,hi,hz,hs,hb⟩ := info_parts h2
 refine wpList_plain hg fun K hK' => ?_
 subst hL hC
 have hrun := run_make (P := P) w t e i (.agg #[z]) h1 hi hz kl kc n n (by omega) (by omega) (by rw [hb];omega) (by omega)
 simp only [Int.toNat_natCast,hs,Nat.mul_one] at hrun
 unfold Oper.wp
 simp [execOp,hop,hl,hc,hrun,Result.andThen]
 refine hK' _ _ (hK _ (Row.newOf e ?_) (Bel.al (Below.refl _ _) _) (by simp))
 unfold madeCells Value.cells
 apply List.ext_getElem?
 intro j
 rw [Array.getElem?_toList,Array.getElem?_map,Array.getElem?_range]
 by_cases hj : j < n
 ·simp [hj,List.getElem?_replicate,Nat.mod_one]
 ·simp [hj,List.getElem?_replicate]
theorem Row.nats {w : World} {g : Nat} {t : TypeId} {ps : List NatM} {n : Nat} (h : Row w g t (ps.map (·.1))) (hn : n = ps.length) (hm : n ≤ 9223372036854775807) (hp : ∀ p ∈ ps,NV w p.1 p.2) : NatsR w (.slice (some ⟨g,0,none⟩) n n) ps := by
 subst hn
 refine ⟨⟨_,_,rfl,Nat.le_refl _,by unfold maxLen;omega,fun _ => ⟨g,0,rfl,h.lt,fun i x hx j u hu => ?_⟩⟩,hp⟩
 match j,hu with
 | 0,hu =>
  simp [natC] at hu
  subst hu
  rw [Nat.zero_add,Nat.mul_one,Nat.add_zero,h.cell?,List.getElem?_map,hx]
  rfl
theorem rep_set2 {α : Type} (A : List α) (z u : α) (k : Nat) (hk : 0 < k) : (A ++ List.replicate k z).set A.length u = (A ++ [u]) ++ List.replicate (k - 1) z := by
 rw [List.set_append_right _ _ (Nat.le_refl _),Nat.sub_self]
 obtain ⟨j,rfl⟩ : ∃ j,k = j + 1 := ⟨k - 1,by omega⟩
 rw [List.replicate_succ,zsB,Nat.add_sub_cancel,List.append_assoc]
 rfl
end Go.Proofs.YtldikghldcefcaaGreat
end
section
set_option linter.unusedVariables false
set_option linter.unusedSimpArgs false
namespace Go.Proofs.YtldikghldcefcaaGreat
def digs (n : Nat) : List Nat := if h : n = 0 then [] else n % 65536 :: digs (n / 65536)
termination_by n
decreasing_by exact Nat.div_lt_self (by omega) (by omega)
def dval : List Nat → Nat
 | [] => 0
 | x :: t => x + 65536 * dval t
def DSmall (l : List Nat) : Prop := ∀ x ∈ l,x < 65536
theorem digs_zero : digs 0 = [] := by rw [digs];simp
theorem digs_pos {n : Nat} (h : n ≠ 0) : digs n = n % 65536 :: digs (n / 65536) := by rw [digs,dif_neg h]
theorem dval_digs (n : Nat) : dval (digs n) = n := by
 induction n using Nat.strongRecOn with
 | _ n ih =>
  by_cases h : n = 0
  ·subst h;rw [digs_zero];rfl
  ·rw [digs_pos h,dval,ih _ (Nat.div_lt_self (by omega) (by omega))];omega
theorem dsmall_digs (n : Nat) : DSmall (digs n) := by
 induction n using Nat.strongRecOn with
 | _ n ih =>
  by_cases h : n = 0
  ·subst h;rw [digs_zero];intro x hx;cases hx
  ·rw [digs_pos h]
   intro x hx
   rcases List.mem_cons.1 hx with rfl | hx
   ·omega
   ·exact ih _ (Nat.div_lt_self (by omega) (by omega)) x hx
theorem dsmall_cons {x : Nat} {t : List Nat} (h : DSmall (x :: t)) : x < 65536 ∧ DSmall t := ⟨h x (List.mem_cons_self ..),fun y hy => h y (List.mem_cons_of_mem _ hy)⟩
theorem dsmall_get {l : List Nat} (h : DSmall l) {i : Nat} (hi : i < l.length) : l[i] < 65536 := h _ (List.getElem_mem hi)
theorem dsmall_take {l : List Nat} (h : DSmall l) (k : Nat) : DSmall (l.take k) := fun x hx => h x (List.mem_of_mem_take hx)
theorem digs_dval_cons {x : Nat} {t : List Nat} (hx : x < 65536) (h : x ≠ 0 ∨ dval t ≠ 0) : digs (x + 65536 * dval t) = x :: digs (dval t) := by
 rw [digs_pos (by omega)]
 have h1 : (x + 65536 * dval t) % 65536 = x := by omega
 have h2 : (x + 65536 * dval t) / 65536 = dval t := by omega
 rw [h1,h2]
theorem digs_dval {l : List Nat} (hs : DSmall l) (hl : ∀ (h : 0 < l.length),l[l.length - 1] ≠ 0) : digs (dval l) = l ∧ (0 < l.length → dval l ≠ 0) := by
 induction l with
 | nil => exact ⟨digs_zero,fun h => absurd h (by simp)⟩
 | cons x t ih =>
  obtain ⟨hx,ht⟩ := dsmall_cons hs
  by_cases h0 : t.length = 0
  ·have : t = [] := List.eq_nil_of_length_eq_zero h0
   subst this
   have := hl (by simp)
   simp only [List.length_cons,List.length_nil,Nat.zero_add,Nat.sub_self,List.getElem_cons_zero] at this
   refine ⟨?_,fun _ => by simp only [dval];omega⟩
   simp only [dval]
   rw [digs_pos (by omega),show (x + 65536 * 0) % 65536 = x by omega,show (x + 65536 * 0) / 65536 = 0 by omega,digs_zero]
  ·have hl' : ∀ (h : 0 < t.length),t[t.length - 1] ≠ 0 := by
    intro h
    have := hl (by simp)
    simp only [List.length_cons,Nat.add_sub_cancel] at this
    rw [List.getElem_cons,dif_neg (by omega)] at this
    exact this
   obtain ⟨i1,i2⟩ := ih ht hl'
   have i3 := i2 (by omega)
   exact ⟨by rw [dval,digs_dval_cons hx (Or.inr i3),i1],fun _ => by rw [dval];omega⟩
theorem dval_append (a b : List Nat) : dval (a ++ b) = dval a + 65536 ^ a.length * dval b := by
 induction a with
 | nil => simp [dval]
 | cons x t ih => rw [List.cons_append,dval,dval,ih,List.length_cons,Nat.pow_succ,Nat.mul_add,← Nat.mul_assoc,Nat.mul_comm (65536 ^ t.length) 65536];omega
theorem dval_take_succ (l : List Nat) (k : Nat) (h : k < l.length) : dval (l.take (k + 1)) = dval (l.take k) + 65536 ^ k * l[k] := by
 rw [take_snoc l k h,dval_append,List.length_take,Nat.min_eq_left (by omega),dval,dval];simp
theorem dval_lt {l : List Nat} (hs : DSmall l) : dval l < 65536 ^ l.length := by
 induction l with
 | nil => simp [dval]
 | cons x t ih =>
  obtain ⟨hx,ht⟩ := dsmall_cons hs
  have := ih ht
  rw [dval,List.length_cons,Nat.pow_succ]
  omega
theorem digs_take {l : List Nat} (hs : DSmall l) {n : Nat} (hn : 0 < n) (hl : n ≤ l.length) (h0 : l[n - 1] ≠ 0) : digs (dval (l.take n)) = l.take n := by
 refine (digs_dval (dsmall_take hs n) fun h => ?_).1
 have : (l.take n).length = n := by rw [List.length_take];omega
 simp only [this,List.getElem_take]
 exact h0
theorem length_digs_lt {n k : Nat} : n < 65536 ^ k ↔ (digs n).length ≤ k := by
 induction k generalizing n with
 | zero =>
  rw [Nat.pow_zero]
  by_cases h : n = 0
  ·subst h;rw [digs_zero];simp
  ·rw [digs_pos h];simp;omega
 | succ k ih =>
  by_cases h : n = 0
  ·subst h;rw [digs_zero];simp;exact Nat.pow_pos (by omega)
  ·rw [digs_pos h,List.length_cons,Nat.add_le_add_iff_right,← ih,Nat.pow_succ,Nat.div_lt_iff_lt_mul (by omega)]
end Go.Proofs.YtldikghldcefcaaGreat
end
section
set_option linter.unusedVariables false
set_option linter.unusedSimpArgs false
namespace Go.Proofs.YtldikghldcefcaaGreat
open Go.RowKit
theorem of_any (n : Nat) (w : World) (h : n < 18446744073709551616) :
  Calls Tryz.prog 82 #[.int .u64 (n : Int)] w (SomeNat n w) := by
 go_enter Tryz.func82,Tryz.ntmps82
 go_wp2_with fail
 refine (trimmed _ [n % 4294967296,n / 4294967296] _ (Rd.new _ (by simp) rfl (by simp) (by decide) (by simp)) (by intro x hx;simp at hx;omega)).mono ?_
 rintro e w1 ⟨u,rfl,hu,hb⟩
 have e1 : val [n % 4294967296,n / 4294967296] = n := by simp only [val];omega
 rw [e1] at hu
 clear e1
 obtain ⟨hc,hf⟩ := bcell hb
 have hc0 : w1.cell? ⟨w.heap.size,0,none⟩ = some (.slice none 0 0) := by rw [hc _ _ (by simp;omega)];simp
 have hu' := hu.setNe hc0 (fun _ h => by cases h) u
 obtain ⟨ao,cap,rfl,hlc,hcm,hr⟩ := Rd.form hu
 go_wp2
 refine bodyPost_ret (v := .agg #[.slice ao (limbs n).length cap]) (by simp [results,Tryz.results82,go_sem,hc0]) rfl ⟨_,rfl,hu',Bel.st (Bel.two _ _ hb) (Nat.le_refl _) _⟩
end Go.Proofs.YtldikghldcefcaaGreat
end
section
open Go.RowKit
set_option linter.unusedVariables false
set_option linter.unusedSimpArgs false
namespace Go.Proofs.YtldikghldcefcaaGreat
theorem wpList_make_row {P : Program} (w : World) {ops : Array Oper} {rest : List Oper} {o : Oper} {a : Act} {Q : Exit → Act → World → Prop}
  (hg : o.guard = none) (l c : Operand) (t : TypeId) (hop : o.op = Op.makeSlice t l c)
  (e : TypeId) (z : Value) (bytes : Nat) (h1 : P.underlying t = some (.slice e)) (h2 : (P.info? e).map (fun i => (i.zero,i.size,i.bytes)) = some (some z,1,bytes)) (hzc : z.cells = #[z])
  (kl kc : IntKind) (L C : Int) (n m : Nat) (hl : a.eval l = .int kl L) (hc : a.eval c = .int kc C) (hL : L = (n : Int)) (hC : C = (m : Int)) (hnm : n ≤ m) (b2 : bytes * m ≤ 281474976710656) (b3 : m ≤ 9223372036854775807)
  (hK : ∀ w',Row w' w.heap.size e (List.replicate m z) → Below w.heap.size w w' → w'.heap.size = w.heap.size + 1 → wpList P ops Q rest (a.put o.dst (.slice (some ⟨w.heap.size,0,none⟩) n m)) w') :
  wpList P ops Q (o :: rest) a w := by
 obtain ⟨i,hi,hz,hs,hb⟩ := info_parts h2
 refine wpList_plain hg fun K hK' => ?_
 subst hL hC
 have hrun := run_make (P := P) w t e i z h1 hi hz kl kc n m (by omega) (by omega) (by rw [hb];omega) (by omega)
 simp only [Int.toNat_natCast,hs,Nat.mul_one,hzc] at hrun
 unfold Oper.wp
 simp [execOp,hop,hl,hc,hrun,Result.andThen]
 refine hK' _ _ (hK _ (Row.newOf e (toList_madeCells_one z m)) (Bel.al (Below.refl _ _) _) (by simp))
end Go.Proofs.YtldikghldcefcaaGreat
end

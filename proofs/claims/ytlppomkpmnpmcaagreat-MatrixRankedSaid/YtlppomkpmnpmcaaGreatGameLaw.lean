/- What a game is, and which games are valid: plain definitions. No condition. -/
import Derived.WalkKit
set_option linter.unusedVariables false
namespace Go.Proofs.YtlppomkpmnpmcaaGreat

structure TierD where
  main : Int
  bonus : Int
  extra : Int
  mode : Int
  kind : Int
  value : Int

structure AddonD where
  name : ByteArray
  kind : Int
  price : Int
  factors : List Int
  digits : Int
  prizes : List Int

structure GameD where
  name : ByteArray
  kind : Int
  price : Int
  main : Int
  of : Int
  bonus : Int
  bonusOf : Int
  extra : Int
  draws : Int
  system : Int
  days : Int
  at_ : Int
  close : Int
  cancel : Int
  expiry : Int
  pool : Int
  reserve : Int
  round : Int
  cap : Int
  rolls : Int
  addons : List AddonD
  tiers : List TierD

/-- lo ≤ x ≤ hi -/
def inB (x lo hi : Int) : Bool := decide (lo ≤ x ∧ x ≤ hi)

theorem inB_yes {x lo hi : Int} (h1 : lo ≤ x) (h2 : x ≤ hi) : inB x lo hi = true := decide_eq_true ⟨h1, h2⟩
theorem inB_lo {x lo hi : Int} (h1 : x < lo) : inB x lo hi = false := decide_eq_false (by omega)
theorem inB_hi {x lo hi : Int} (h1 : hi < x) : inB x lo hi = false := decide_eq_false (by omega)
theorem inB_iff {x lo hi : Int} : inB x lo hi = true ↔ lo ≤ x ∧ x ≤ hi := decide_eq_true_iff

/-- A byte of a name. -/
def nameC (c : Nat) : Bool := decide ((97 ≤ c ∧ c ≤ 122) ∨ (48 ≤ c ∧ c ≤ 57) ∨ c = 45)

/-- Byte number i of a string. -/
def byteN (s : ByteArray) (i : Nat) : Nat := if h : i < s.size then (s[i]'h).toNat else 0

theorem byteN_eq {s : ByteArray} {i : Nat} (h : i < s.size) : byteN s i = (s[i]'h).toNat := dif_pos h

/-- A name. -/
def nameB (s : ByteArray) : Bool := decide (1 ≤ s.size ∧ s.size ≤ 24 ∧ 97 ≤ byteN s 0 ∧ byteN s 0 ≤ 122 ∧ ∀ i, i < s.size → nameC (byteN s i) = true)

theorem name_short {s : ByteArray} (h : ¬ (1 ≤ s.size ∧ s.size ≤ 24)) : nameB s = false := decide_eq_false (fun e => h ⟨e.1, e.2.1⟩)
theorem name_first {s : ByteArray} (h : ¬ (97 ≤ byteN s 0 ∧ byteN s 0 ≤ 122)) : nameB s = false := decide_eq_false (fun e => h ⟨e.2.2.1, e.2.2.2.1⟩)
theorem name_at {s : ByteArray} {i : Nat} (hi : i < s.size) (h : nameC (byteN s i) = false) : nameB s = false := decide_eq_false (fun e => by have := e.2.2.2.2 i hi; rw [h] at this; cases this)
theorem name_yes {s : ByteArray} (h1 : 1 ≤ s.size) (h2 : s.size ≤ 24) (h3 : 97 ≤ byteN s 0) (h4 : byteN s 0 ≤ 122) (h : ∀ i, i < s.size → nameC (byteN s i) = true) : nameB s = true := decide_eq_true ⟨h1, h2, h3, h4, h⟩
theorem name_size {s : ByteArray} (h : nameB s = true) : s.size ≤ 24 := (of_decide_eq_true h).2.1

/-- All of a list from lo to hi? The code. -/
def allE (l : List Int) (lo hi : Int) : Int := if l.all (fun x => inB x lo hi) then 0 else 2

/-- The code of an add-on by itself. -/
def addonE (a : AddonD) : Int :=
  if nameB a.name = false then 4
  else if a.kind ≠ 1 ∧ a.kind ≠ 2 then 7
  else if inB a.price 0 1000000 = false then 2
  else if a.kind = 1 then
    (if a.digits ≠ 0 ∨ 0 < a.prizes.length then 7 else if inB a.factors.length 1 8 = false then 3 else allE a.factors 1 100)
  else
    (if 0 < a.factors.length then 7 else if inB a.digits 1 8 = false then 2 else if (a.prizes.length : Int) ≠ a.digits then 3 else allE a.prizes 0 1000000000)

/-- The code of the add-ons r behind those of seen. -/
def addonsGo : List AddonD → List AddonD → Int
  | _, [] => 0
  | seen, a :: r => if addonE a ≠ 0 then addonE a else if seen.any (fun s => decide (s.name = a.name) || decide (s.kind = a.kind)) then 6 else addonsGo (seen ++ [a]) r

def addonsE (l : List AddonD) : Int := if 4 < l.length then 3 else addonsGo [] l

/-- The code of a tier's hits in a choose game. -/
def chooseTE (g : GameD) (t : TierD) : Int := if t.mode ≠ 0 then 7 else if inB t.main 0 g.main = false ∨ inB t.bonus 0 g.bonus = false ∨ inB t.extra 0 g.extra = false ∨ (t.main = 0 ∧ t.bonus = 0 ∧ t.extra = 0) then 2 else 0

/-- .. in a game of digits. -/
def digitsTE (g : GameD) (t : TierD) : Int := if inB t.mode 1 4 = false then 7 else if t.bonus ≠ 0 ∨ t.extra ≠ 0 ∨ (if t.mode ≤ 2 then inB t.main 0 0 else inB t.main 1 g.main) = false then 2 else 0

/-- The code of a tier by itself. -/
def tierE (g : GameD) (t : TierD) : Int :=
  let c : Int := if g.kind = 2 then digitsTE g t else chooseTE g t
  if c ≠ 0 then c else if inB t.kind 1 3 = false then 7 else if inB t.value 0 1000000000 = false then 2 else 0

def modeV (g : GameD) (t : TierD) : Int := if 3 ≤ t.mode ∧ t.mode ≤ 4 ∧ t.main = g.main then 1 else t.mode

/-- Does a tier cover another one? -/
def coversB (g : GameD) (a b : TierD) : Bool :=
  if g.kind = 1 then decide (a.main ≤ b.main ∧ a.bonus ≤ b.bonus ∧ a.extra ≤ b.extra)
  else if modeV g b = 1 then true
  else decide (modeV g a = modeV g b ∧ a.main ≤ b.main)

def tiersGo (g : GameD) : List TierD → List TierD → Int
  | _, [] => 0
  | seen, t :: r => if tierE g t ≠ 0 then tierE g t else if seen.any (fun s => coversB g s t) then 6 else tiersGo g (seen ++ [t]) r

def tiersE (g : GameD) : Int := if inB g.tiers.length 1 12 = false then 3 else tiersGo g [] g.tiers

/-- The matrix of a game. -/
def matB (g : GameD) : Bool :=
  inB g.price 1 1000000 && inB g.main 1 10 && (if g.kind = 2 then inB g.of 2 10 else inB g.of g.main 80) && (if g.kind = 2 then inB g.bonus 0 0 else inB g.bonus 0 4)
  && (if g.bonus = 0 then inB g.bonusOf 0 0 else inB g.bonusOf g.bonus 80)
  && (if g.kind = 2 then inB g.extra 0 0 else (inB g.extra 0 4 && decide (g.main + g.extra ≤ g.of)))
  && inB g.draws 1 32 && (if g.kind = 2 then inB g.system g.main g.main else (inB g.system g.main 14 && decide (g.system ≤ g.of)))

/-- The terms of a game. -/
def termB (g : GameD) : Bool :=
  inB g.days 1 127 && inB g.at_ 0 1439 && inB g.close 0 1440 && inB g.cancel 0 10080 && inB g.expiry 1 3660 && inB g.pool 0 10000 && inB g.reserve 0 10000
  && inB g.round 1 1000000 && inB g.cap 0 1000000000000 && inB g.rolls 0 64

/-- The code of a game. -/
def gameE (g : GameD) : Int :=
  if nameB g.name = false then 4
  else if g.kind ≠ 1 ∧ g.kind ≠ 2 then 7
  else if matB g = false then 2
  else if termB g = false then 2
  else if addonsE g.addons ≠ 0 then addonsE g.addons
  else tiersE g
end Go.Proofs.YtlppomkpmnpmcaaGreat

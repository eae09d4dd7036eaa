/- Lemmas, merged out of smaller texts (wip/tools/mergedce.py). No condition. -/
import Derived.Deep.RegionHeld3
import Derived.Deep.MidRow
import Derived.Deep.DeepCutAuto
import Derived.Test.YtldikghldcefcaaHD
import Derived.Test.YtldikghldcefcaaHE
import Derived.Test.YtldikghldcefcaaHB
import Derived.Test.YtldikghldcefcaaHF
import Derived.Test.YtldikghldcefcaaHH
import Derived.Test.YtldikghldcefcaaHM
import Derived.Test.YtldikghldcefcaaHC
import Derived.Test.YtldikghldcefcaaHCore
section
open Go.RowKit
set_option linter.unusedVariables false
set_option linter.unusedSimpArgs false
namespace Go.Proofs.Ytldikghldcefcaa
theorem there_own {w : World} {base gb n c : Nat} {e : Nat} {l : List TierD} (h : w.ownsRow base e 6 (.slice (some ⟨gb,0,none⟩) n c) n (l.flatMap tierCells)) (hl : l.length = n) {i : Nat} (hi : i < n) : w.there gb (i * 6) 6 := fun j hj => by
 refine ⟨?_,World.ownsRow.frozenAt h _⟩
 rw [World.ownsRow.cellAt h (i * 6 + j) (by omega)]
 have hlen : i * 6 + j < (l.flatMap tierCells).length := by rw [flatS_len tier_lenL,hl];omega
 rw [List.getElem?_eq_getElem hlen]
 rfl
theorem rds_put {w : World} {gb n c : Nat} {l : List TierD} (h : RdS 6 tierCells w (.slice (some ⟨gb,0,none⟩) n c) l) {i : Nat} (hi : i < l.length) (x : TierD) (ht : w.there gb (i * 6) 6) :
  RdS 6 tierCells (w.setCells gb (i * 6) (tierCells x)) (.slice (some ⟨gb,0,none⟩) n c) (l.set i x) := by
 obtain ⟨ao,cap,e,h1,h2,h3⟩ := h
 injection e with e1 e2 e3
 subst e1 e2 e3
 refine ⟨_,_,by rw [List.length_set],by rw [List.length_set];exact h1,h2,fun hp => ?_⟩
 rw [List.length_set] at hp
 obtain ⟨b,off,e,hb,hc⟩ := h3 hp
 injection e with e
 injection e with e4 e5
 subst e4 e5
 have hsz : (w.setCells gb (i * 6) (tierCells x)).heap.size = w.heap.size := by
  have key : ∀ (vs : List Value) (o : Nat) (X : World),(X.setCells gb o vs).heap.size = X.heap.size := by
   intro vs
   induction vs with
   | nil => intro o X;rfl
   | cons v r ih => intro o X;rw [World.setCells,ih];simp [World.setCell]
  exact key _ _ _
 refine ⟨gb,0,rfl,by rw [hsz];exact hb,fun j y hy k u hu => ?_⟩
 by_cases hji : j = i
 ·subst hji
  rw [List.getElem?_set_self hi] at hy
  have hy := Option.some.inj hy
  subst hy
  rw [Nat.zero_add]
  have ht2 : w.there gb (j * 6) (tierCells x).length := by rw [tier_lenL];exact ht
  exact World.rangeAt_setCells_same w gb (j * 6) (tierCells x) ht2 k u hu
 ·rw [List.getElem?_set_ne (fun e => hji e.symm)] at hy
  have hr : w.rangeAt gb (j * 6) (tierCells y) := fun k u hu => by
   have := hc j y hy k u hu
   rwa [Nat.zero_add] at this
  rw [Nat.zero_add]
  refine World.rangeAt_setCells_apart hr gb (i * 6) (tierCells x) (.inr ?_) k u hu
  rw [tier_lenL,tier_lenL]
  omega
theorem setCells_drew (gb : Nat) (vs : List Value) : ∀ (o : Nat) (w : World),w.drew.setCells gb o vs = (w.setCells gb o vs).drew := by
 induction vs with
 | nil => intro o w;rfl
 | cons v r ih =>
  intro o w
  rw [World.setCells,World.setCells,← ih]
  rfl
theorem if_wanted {o : Oper} {y : Nat → Option Bool} {p q : Prop} (h : o.guard = none) (hp : p) : if Region.wanted o y = true then p else q := by
 rw [if_pos (by unfold Region.wanted;rw [h])];exact hp
theorem there_drew {w : World} {b o n : Nat} (h : w.there b o n) : w.drew.there b o n := h
theorem row_setCells {w : World} {g gb o : Nat} {t : TypeId} {cs vs : List Value} (h : Row w g t cs) (hne : g ≠ gb) : Row (w.setCells gb o vs) g t cs := by
 induction vs generalizing o w with
 | nil => exact h
 | cons v r ih => exact ih (h.far hne v)
end Go.Proofs.Ytldikghldcefcaa
end
section
set_option linter.unusedVariables false
set_option linter.unusedSimpArgs false
namespace Go.Proofs.Ytldikghldcefcaa
def cc (m k h : Nat) : Nat := if h ≤ k then choose m (k - h) else 0
def sumV (d m k : Nat) : Nat → Nat
 | 0 => 0
 | t + 1 => sumV d m k t + choose d t * cc m k t
theorem sumV_succ (d m k t : Nat) : sumV d m k (t + 1) = sumV d m k t + choose d t * cc m k t := rfl
theorem sumV_zero (d m t : Nat) : sumV d m 0 (t + 1) = 1 := by
 induction t with
 | zero => simp [sumV,cc,choose_zero]
 | succ t ih => rw [sumV_succ,ih];simp [cc]
theorem sumV_split (d m k t : Nat) : sumV (d + 1) m (k + 1) (t + 1) = sumV d m (k + 1) (t + 1) + sumV d m k t := by
 induction t with
 | zero => simp [sumV,choose_zero]
 | succ t ih =>
  rw [sumV_succ,ih,sumV_succ d m (k + 1) (t + 1),sumV_succ d m k t,choose_succ,Nat.add_mul]
  have e : cc m (k + 1) (t + 1) = cc m k t := by
   unfold cc
   by_cases h : t ≤ k
   ·rw [if_pos h,if_pos (by omega),show k + 1 - (t + 1) = k - t by omega]
   ·rw [if_neg h,if_neg (by omega)]
  rw [e]
  omega
theorem vand (d m k : Nat) : sumV d m k (d + 1) = choose (d + m) k := by
 induction d generalizing k with
 | zero => simp [sumV,cc,choose_zero]
 | succ d ih =>
  cases k with
  | zero => rw [sumV_zero,choose_zero]
  | succ k =>
   rw [sumV_split,ih,sumV_succ d m (k + 1) (d + 1),ih,choose_gt (show d < d + 1 by omega),Nat.zero_mul,Nat.add_zero,show d + 1 + m = d + m + 1 by omega,choose_succ]
   omega
theorem sumV_mono (d m k : Nat) {s t : Nat} (h : s ≤ t) : sumV d m k s ≤ sumV d m k t := by
  induction t with
  | zero => obtain rfl : s = 0 := by omega
            exact Nat.le_refl _
  | succ t ih =>
    rcases Nat.lt_or_ge t s with h1 | h1
    · obtain rfl : s = t + 1 := by omega
      exact Nat.le_refl _
    · rw [sumV_succ]; have := ih h1; omega
end Go.Proofs.Ytldikghldcefcaa
end
section
open Go.RowKit
set_option linter.unusedVariables false
set_option linter.unusedSimpArgs false
namespace Go.Proofs.Ytldikghldcefcaa
theorem sumV_sum (d m k n : Nat) : sumTo (fun t => choose d t * cc m k t) n = sumV d m k n := by
 induction n with
 | zero => rfl
 | succ n ih => rw [sumTo,sumV,ih]
theorem chP_nat (n k : Nat) : chP ((n : Int),(k : Int)) = choose n k := by
 unfold chP chZ chooseI
 simp only []
 rw [if_neg (by omega),if_neg (by omega)]
 simp
def wayA (g : GameD) (m x : Nat) : Nat := prodL ([(g.main,(m : Int)),(g.of - g.main,g.main - (m : Int)),(g.main - (m : Int),(x : Int)),(g.of - 2 * g.main + (m : Int),g.extra - (x : Int))].map chP)
theorem prodL_app (l k : List Nat) : prodL (l ++ k) = prodL l * prodL k := by
 induction l with
 | nil => simp [prodL]
 | cons x t ih => rw [List.cons_append,prodL,prodL,ih,Nat.mul_assoc]
theorem wayN_split (g : GameD) (m x b : Nat) : wayN g m x b = wayA g m x * (chP (g.bonus,(b : Int)) * chP (g.bonusOf - g.bonus,g.bonus - (b : Int))) := by
 unfold wayN wayP wayA
 rw [show ∀ a b c d e f : Int × Int,[a,b,c,d,e,f] = [a,b,c,d] ++ [e,f] from fun _ _ _ _ _ _ => rfl,List.map_append,prodL_app]
 simp [prodL]
def condsG (g : GameD) : List CondD := g.tiers.map (condOf g.main.toNat)
def winV (g : GameD) (t : Int) : Nat := if g.kind = 2 then win2 g.of.toNat g.main.toNat (condsG g) t.toNat else winC g t
def winS (g : GameD) : Nat := sumTo (fun i => winV g (i : Int)) g.tiers.length
theorem winV_dig {g : GameD} (hk : g.kind = 2) (t : Int) : winV g t = win2 g.of.toNat g.main.toNat (condsG g) t.toNat := by unfold winV;rw [if_pos hk]
theorem winV_cho {g : GameD} (hk : g.kind ≠ 2) (t : Int) : winV g t = winC g t := by unfold winV;rw [if_neg hk]
theorem winS_dig {g : GameD} (hk : g.kind = 2) : winS g = sumTo (win2 g.of.toNat g.main.toNat (condsG g)) (condsG g).length := by
 unfold winS
 rw [show (condsG g).length = g.tiers.length by unfold condsG;rw [List.length_map]]
 exact sumTo_congr fun i _ => by rw [winV_dig hk,Int.toNat_natCast]
theorem firstGo_sum (p : TierD → Bool) (l : List TierD) : ∀ (a K : Nat),sumTo (fun i => if firstGo p l (a : Int).toNat = ((a + i : Nat) : Int) then K else 0) l.length = if l.any p = true then K else 0 := by
 induction l with
 | nil => intro a K;simp [sumTo]
 | cons t r ih =>
  intro a K
  rw [List.length_cons,sumTo_front,List.any_cons]
  simp only [firstGo,Int.toNat_natCast,Nat.add_zero]
  by_cases h : p t = true
  ·simp only [if_pos h]
   rw [if_pos True.intro,h,Bool.true_or,if_pos rfl,sumTo_congr (g := fun _ => 0),sumTo_zero,Nat.add_zero]
   intro k _
   rw [if_neg (by omega)]
  ·have hp : p t = false := by simpa using h
   simp only [if_neg h]
   rw [hp,Bool.false_or]
   have h1 := ih (a + 1) K
   rw [Int.toNat_natCast] at h1
   rw [← h1]
   have h0 : ¬ firstGo p r (a + 1) = (a : Int) := by
    have key : ∀ (r : List TierD) (c : Nat),firstGo p r c = -1 ∨ (c : Int) ≤ firstGo p r c := by
     intro r
     induction r with
     | nil => intro c;exact .inl rfl
     | cons x r ihr =>
      intro c
      unfold firstGo
      split
      ·exact .inr (Int.le_refl _)
      ·rcases ihr (c + 1) with h | h
       ·exact .inl h
       ·exact .inr (by omega)
    rcases key r (a + 1) with h | h <;> omega
   rw [if_neg h0,Nat.zero_add]
   exact sumTo_congr fun k _ => by rw [show a + (k + 1) = a + 1 + k by omega]
theorem winH_sum (g : GameD) (m x b : Nat) : sumTo (fun i => winH g (i : Int) m x b) g.tiers.length = if g.tiers.any (hitT m x b) = true then wayN g m x b else 0 := by
 have h := firstGo_sum (hitT m x b) g.tiers 0 (wayN g m x b)
 rw [← h]
 exact sumTo_congr fun i _ => by unfold winH wonC;rw [Nat.zero_add];rfl
theorem sumTo_swap (f : Nat → Nat → Nat) (a b : Nat) : sumTo (fun i => sumTo (f i) b) a = sumTo (fun j => sumTo (fun i => f i j) a) b := by
 induction a with
 | zero => simp only [sumTo];rw [sumTo_zero]
 | succ a ih => simp only [sumTo];rw [sumTo_add,ih]
theorem winC_sum (g : GameD) : sumTo (fun i => winC g (i : Int)) g.tiers.length = sumTo (fun m => sumTo (fun x => sumTo (fun b => if g.tiers.any (hitT m x b) = true then wayN g m x b else 0) (g.bonus.toNat + 1)) (g.extra.toNat + 1)) (g.main.toNat + 1) := by
 unfold winC
 rw [sumTo_swap]
 refine sumTo_congr fun m _ => ?_
 unfold winF
 rw [sumTo_swap]
 refine sumTo_congr fun x _ => ?_
 unfold winG
 rw [sumTo_swap]
 exact sumTo_congr fun b _ => winH_sum g m x b
theorem winS_cho {g : GameD} (hk : g.kind ≠ 2) : winS g = sumTo (fun m => sumTo (fun x => sumTo (fun b => if g.tiers.any (hitT m x b) = true then wayN g m x b else 0) (g.bonus.toNat + 1)) (g.extra.toNat + 1)) (g.main.toNat + 1) := by
 rw [← winC_sum]
 exact sumTo_congr fun i _ => winV_cho hk _
theorem sumV_le (d m k t : Nat) : sumV d m k t ≤ choose (d + m) k := by
 rw [← vand]
 rcases Nat.le_total t (d + 1) with h | h
 ·exact sumV_mono d m k h
 ·obtain ⟨j,rfl⟩ : ∃ j,t = d + 1 + j := ⟨t - (d + 1),by omega⟩
  clear h
  induction j with
  | zero => exact Nat.le_refl _
  | succ j ih => rw [show d + 1 + (j + 1) = d + 1 + j + 1 by omega,sumV_succ,choose_gt (show d < d + 1 + j by omega),Nat.zero_mul];exact ih
theorem hyp_le (d m : Int) (k n : Nat) (hd : 0 ≤ d) (K : Int) (hK : K = (k : Int)) (hdm : 0 ≤ d + m) : sumTo (fun t => chP (d,(t : Int)) * chP (m,K - (t : Int))) n ≤ choose (d + m).toNat k := by
 subst hK
 obtain ⟨D,rfl⟩ : ∃ D : Nat,d = (D : Int) := ⟨d.toNat,by omega⟩
 by_cases hm : m < 0
 ·rw [sumTo_congr (g := fun _ => 0),sumTo_zero]
  ·exact Nat.zero_le _
  ·intro t _
   have : chP (m,(k : Int) - (t : Int)) = 0 := by unfold chP chZ;rw [if_pos hm]
   rw [this,Nat.mul_zero]
 ·obtain ⟨M,rfl⟩ : ∃ M : Nat,m = (M : Int) := ⟨m.toNat,by omega⟩
  have e : ∀ t,t < n → chP ((D : Int),(t : Int)) * chP ((M : Int),(k : Int) - (t : Int)) = choose D t * cc M k t := by
   intro t _
   rw [chP_nat]
   congr 1
   unfold cc
   by_cases h : t ≤ k
   ·rw [if_pos h,show (k : Int) - (t : Int) = ((k - t : Nat) : Int) by omega,chP_nat]
   ·rw [if_neg h]
    unfold chP chZ chooseI
    simp only []
    rw [if_neg (by omega),if_pos (by omega)]
  rw [sumTo_congr e,sumV_sum]
  have h := sumV_le D M k n
  rwa [show ((D : Int) + (M : Int)).toNat = D + M by omega]
theorem outN_cho {g : GameD} (hk : g.kind ≠ 2) : outN g = chP (g.of,g.main) * (chP (g.of - g.main,g.extra) * chP (g.bonusOf,g.bonus)) := by
 unfold outN
 rw [if_neg hk]
 simp only [prodL,Nat.mul_one]
theorem way_all_le {g : GameD} (hk : g.kind ≠ 2) (hc : ChoF g) (he : g.main + g.extra ≤ g.of) : sumTo (fun m => sumTo (fun x => sumTo (fun b => wayN g m x b) (g.bonus.toNat + 1)) (g.extra.toNat + 1)) (g.main.toNat + 1) ≤ outN g := by
 have c1 := hc.m1
 have c2 := hc.o1
 have c3 := hc.b1
 have c4 := hc.p1
 have c5 := hc.e1
 have hB : ∀ m x,sumTo (fun b => wayN g m x b) (g.bonus.toNat + 1) ≤ wayA g m x * chP (g.bonusOf,g.bonus) := by
  intro m x
  rw [sumTo_congr (g := fun b => wayA g m x * (chP (g.bonus,(b : Int)) * chP (g.bonusOf - g.bonus,g.bonus - (b : Int)))) (fun b _ => wayN_split g m x b),sumTo_mul]
  refine Nat.mul_le_mul_left _ ?_
  have h := hyp_le g.bonus (g.bonusOf - g.bonus) g.bonus.toNat (g.bonus.toNat + 1) c3 g.bonus (by omega) (by omega)
  rw [show g.bonus + (g.bonusOf - g.bonus) = g.bonusOf by omega] at h
  have e : chP (g.bonusOf,g.bonus) = choose g.bonusOf.toNat g.bonus.toNat := by
   have := chP_nat g.bonusOf.toNat g.bonus.toNat
   rwa [show (g.bonusOf.toNat : Int) = g.bonusOf by omega,show (g.bonus.toNat : Int) = g.bonus by omega] at this
  rw [e];exact h
 have hA : ∀ m x,wayA g m x = (chP (g.main,(m : Int)) * chP (g.of - g.main,g.main - (m : Int))) * (chP (g.main - (m : Int),(x : Int)) * chP (g.of - 2 * g.main + (m : Int),g.extra - (x : Int))) := by
  intro m x
  unfold wayA
  simp only [List.map_cons,List.map_nil,prodL,Nat.mul_one]
  rw [Nat.mul_assoc]
 have hX : ∀ m,m < g.main.toNat + 1 → sumTo (fun x => sumTo (fun b => wayN g m x b) (g.bonus.toNat + 1)) (g.extra.toNat + 1) ≤ (chP (g.main,(m : Int)) * chP (g.of - g.main,g.main - (m : Int))) * (chP (g.of - g.main,g.extra) * chP (g.bonusOf,g.bonus)) := by
  intro m hm
  refine Nat.le_trans (sumTo_le fun x _ => hB m x) ?_
  rw [sumTo_congr (g := fun x => (chP (g.bonusOf,g.bonus) * (chP (g.main,(m : Int)) * chP (g.of - g.main,g.main - (m : Int)))) * (chP (g.main - (m : Int),(x : Int)) * chP (g.of - 2 * g.main + (m : Int),g.extra - (x : Int)))) (fun x _ => by rw [hA,Nat.mul_comm,← Nat.mul_assoc]),sumTo_mul]
  have h := hyp_le (g.main - (m : Int)) (g.of - 2 * g.main + (m : Int)) g.extra.toNat (g.extra.toNat + 1) (by omega) g.extra (by omega) (by omega)
  rw [show g.main - (m : Int) + (g.of - 2 * g.main + (m : Int)) = g.of - g.main by omega] at h
  have e : chP (g.of - g.main,g.extra) = choose (g.of - g.main).toNat g.extra.toNat := by
   have := chP_nat (g.of - g.main).toNat g.extra.toNat
   rwa [show ((g.of - g.main).toNat : Int) = g.of - g.main by omega,show (g.extra.toNat : Int) = g.extra by omega] at this
  rw [← e] at h
  refine Nat.le_trans (Nat.mul_le_mul_left _ h) (Nat.le_of_eq ?_)
  generalize chP (g.bonusOf,g.bonus) = a
  generalize chP (g.main,(m : Int)) * chP (g.of - g.main,g.main - (m : Int)) = b
  generalize chP (g.of - g.main,g.extra) = c
  grind
 refine Nat.le_trans (sumTo_le hX) ?_
 rw [sumTo_congr (g := fun m => (chP (g.of - g.main,g.extra) * chP (g.bonusOf,g.bonus)) * (chP (g.main,(m : Int)) * chP (g.of - g.main,g.main - (m : Int)))) (fun m _ => Nat.mul_comm _ _),sumTo_mul,outN_cho hk,Nat.mul_comm]
 refine Nat.mul_le_mul_right _ ?_
 have h := hyp_le g.main (g.of - g.main) g.main.toNat (g.main.toNat + 1) (by omega) g.main (by omega) (by omega)
 rw [show g.main + (g.of - g.main) = g.of by omega] at h
 have e : chP (g.of,g.main) = choose g.of.toNat g.main.toNat := by
  have := chP_nat g.of.toNat g.main.toNat
  rwa [show (g.of.toNat : Int) = g.of by omega,show (g.main.toNat : Int) = g.main by omega] at this
 rw [e];exact h
theorem winS_le {g : GameD} (he : gameE g = 0) : winS g ≤ outN g := by
 by_cases hk : g.kind = 2
 ·rw [winS_dig hk]
  unfold outN
  rw [if_pos hk]
  exact win2_le _ _ _
 ·rw [winS_cho hk]
  refine Nat.le_trans (sumTo_le fun m _ => sumTo_le fun x _ => sumTo_le fun b _ => ?_) (way_all_le hk (choF he hk) (mat_sum (game_mat he) hk))
  split
  ·exact Nat.le_refl _
  ·exact Nat.zero_le _
theorem outN_ten {g : GameD} (he : gameE g = 0) : (limbs (outN g)).length ≤ 10 := by
 have h := mat_facts (game_mat he)
 by_cases hk : g.kind = 2
 ·unfold outN
  rw [if_pos hk]
  have := pow_limbs (d := g.of.toNat) (n := 2 * g.main.toNat) (by have := h.2.2.2.2.2.2.1 hk;omega) (by omega)
  omega
 ·rw [outN_cho hk]
  have h2 := choF he hk
  have h4 := h2.m1
  have h5 := h2.o2
  have h6 := h2.p2
  have a1 : (limbs (chP (g.of,g.main))).length ≤ 3 := chZ_limbs _ _ (by simp only [];omega)
  have a2 : (limbs (chP (g.of - g.main,g.extra))).length ≤ 3 := chZ_limbs _ _ (by simp only [];omega)
  have a3 : (limbs (chP (g.bonusOf,g.bonus))).length ≤ 3 := chZ_limbs _ _ (by simp only [];omega)
  have b1 := limbs_mul (chP (g.of,g.main)) (chP (g.of - g.main,g.extra) * chP (g.bonusOf,g.bonus))
  have b2 := limbs_mul (chP (g.of - g.main,g.extra)) (chP (g.bonusOf,g.bonus))
  omega
theorem winS_ten {g : GameD} (he : gameE g = 0) : (limbs (winS g)).length ≤ 10 := Nat.le_trans (limbs_len_le (winS_le he)) (outN_ten he)
theorem winS_perm {g : GameD} {l : List TierD} (h : l.Perm g.tiers) : winS { g with tiers := l } = winS g ∧ outN { g with tiers := l } = outN g := by
 refine ⟨?_,rfl⟩
 by_cases hk : g.kind = 2
 ·rw [winS_dig hk,winS_dig (g := { g with tiers := l }) hk]
  exact win2_perm (h.map _)
 ·rw [winS_cho hk,winS_cho (g := { g with tiers := l }) hk]
  refine sumTo_congr fun m _ => sumTo_congr fun x _ => sumTo_congr fun b _ => ?_
  have e : l.any (hitT m x b) = g.tiers.any (hitT m x b) := by
   rw [Bool.eq_iff_iff,List.any_eq_true,List.any_eq_true]
   exact ⟨fun ⟨y,hy,hp⟩ => ⟨y,h.mem_iff.1 hy,hp⟩,fun ⟨y,hy,hp⟩ => ⟨y,h.mem_iff.2 hy,hp⟩⟩
  show (if l.any (hitT m x b) = true then wayN g m x b else 0) = _
  rw [e]
end Go.Proofs.Ytldikghldcefcaa
end
section
set_option linter.unusedVariables false
set_option linter.unusedSimpArgs false
namespace Go.Proofs.Ytldikghldcefcaa
open Go.RowKit
set_option maxHeartbeats 4000000 in
set_option maxRecDepth 100000 in
theorem owin_dig (g : GameD) (av tv : Value) (ms : List AddonM) (t : Nat) (w : World) (hr : GameR w av tv ms g) (he : gameE g = 0) (hk : g.kind = 2) (ht : t < g.tiers.length) :
  Calls Try.prog 30 #[gameVal g av tv,.int .i64 (t : Int)] w (NatC (winV g (t : Int)) 0 w) := by
 have hmf := mat_facts (game_mat he)
 obtain ⟨P,hP⟩ : ∃ P,P = winV g (t : Int) := ⟨_,rfl⟩
 have cD := hide (fun X (hX : Below w.heap.size w X) => odig_any g av tv ms g.of.toNat g.main.toNat t X (hr.below hX) he hk (by omega) (by omega) ht)
 have e : P = win2 g.of.toNat g.main.toNat (g.tiers.map (condOf g.main.toNat)) t := by rw [hP,winV_dig hk,Int.toNat_natCast];rfl
 rw [← e] at cD
 rw [← hP]
 clear e hP hmf ht he
 replace hk := hide hk
 obtain ⟨aa,ac,rfl,hal,ham⟩ := hr.1.1.shape
 obtain ⟨ta,tc,rfl,htl,htm⟩ := hr.2.2.shape
 obtain ⟨an,han⟩ : ∃ an,an = ms.length := ⟨_,rfl⟩
 obtain ⟨tn,htn⟩ : ∃ tn,tn = g.tiers.length := ⟨_,rfl⟩
 rw [← han,← htn] at cD ⊢
 clear hr hal htl ham htm han htn
 unfold gameVal at cD ⊢
 go_enter Try.func30,Try.ntmps30
 go_upto_region 1 with (fail)
 obtain ⟨W,hW⟩ : ∃ W,W = (w.alloc (Obj.cells #[.string g.name,.int .i64 g.kind,.int .i64 g.price,.int .i64 g.main,.int .i64 g.of,.int .i64 g.bonus,.int .i64 g.bonusOf,.int .i64 g.extra,.int .i64 g.draws,.int .i64 g.system,.int .i64 g.days,.int .i64 g.at_,.int .i64 g.close,.int .i64 g.cancel,.int .i64 g.expiry,.int .i64 g.pool,.int .i64 g.reserve,.int .i64 g.round,.int .i64 g.cap,.int .i64 g.rolls,(.slice aa an ac),(.slice ta tn tc)] 25)).alloc (Obj.cells #[.slice none 0 0] 30) := ⟨_,rfl⟩
 have bel : Below w.heap.size w W := by rw [hW];exact Bel.al (Bel.al (Below.refl _ _) _) _
 have rg : GameAt W w.heap.size g (.slice aa an ac) (.slice ta tn tc) := by rw [hW];exact Row.alloc (Row.new _ _ _) _
 have rR : Row W (w.heap.size + 1) 30 [.slice none 0 0] := by rw [hW];exact Row.at2 _ _ _ _
 rw [← hW]
 clear hW
 have ck := rg.kind
 rw [hk.out] at ck
 have cD2 := hide (cD.out W bel)
 clear cD
 go_wp2_with (first | (refine wpList_load_row rfl 25 _ rfl _ rfl _ _ _ _ rg Try.underlying25 rfl (by kernel_rfl) ?_) | fail)
 refine cD2.out.mono ?_
 rintro e w1 ⟨u,rfl,hp,hb1⟩
 obtain ⟨pa,pn,pc,rfl⟩ := Rd.shape hp
 replace rR := Row.keep rR hb1
 replace bel := Bel.to bel hb1
 clear hb1 cD2 ck rg
 have cR := rR.cell? 0
 have fR := rR.frozen 0
 simp only [List.getElem?_cons_zero] at cR
 have hf := Rd.setNe hp cR (fun _ h => by cases h) (.slice pa pn pc)
 have belf := Bel.st bel (p := ⟨w.heap.size + 1,0,none⟩) (by simp only [];omega) (.slice pa pn pc)
 go_wp2
 exact bodyPost_ret (v := .tuple #[.agg #[(.slice pa pn pc)],.int .i64 0]) (by simp [results,Try.results30,go_sem,cR]) rfl ⟨_,rfl,hf,belf⟩
theorem owin_any (g : GameD) (av tv : Value) (ms : List AddonM) (he : gameE g = 0) (t : Int) (X : World) (h0 : 0 ≤ t) (h1 : t < g.tiers.length) (hr : GameR X av tv ms g) :
  Calls Try.prog 30 #[gameVal g av tv,.int .i64 t] X (NatC (winV g t) 0 X) := by
 by_cases hk : g.kind = 2
 ·obtain ⟨n,rfl⟩ : ∃ n : Nat,t = (n : Int) := ⟨t.toNat,by omega⟩
  exact owin_dig g av tv ms n X hr he hk (by omega)
 ·rw [winV_cho hk]
  exact owin_choose g av tv ms t X hr he hk
def anyP (g : GameD) : Nat := if gameE g = 0 then winS g / Nat.gcd (winS g) (outN g) else 0
def anyQ (g : GameD) : Nat := if gameE g = 0 then outN g / Nat.gcd (winS g) (outN g) else 0
theorem oAny_val (g : GameD) (av tv : Value) (ms : List AddonM) (w : World) (rg : GameR w av tv ms g) :
  Calls Try.prog 12 #[gameVal g av tv] w (FracC (anyP g) (anyQ g) (gameE g) w) :=
 oAny_any g av tv ms (winV g) w rg (fun he => by have h := winS_ten he;unfold winS at h;omega) (fun he t X h0 h1 hX => owin_any g av tv ms he t X h0 h1 hX)
end Go.Proofs.Ytldikghldcefcaa
end
section
open Go.RowKit
set_option linter.unusedVariables false
set_option linter.unusedSimpArgs false
namespace Go.Proofs.Ytldikghldcefcaa
theorem half_step {a L : List Nat} {k r x : Nat} (hk : k + 1 ≤ a.length) (hL : L.length = a.length) (h : dval (a.drop (k + 1)) = 2 * dval (L.drop (k + 1)) + r) (hx : x = 65536 * r + a[k]) :
  dval (a.drop k) = 2 * dval ((L.set k (x / 2)).drop k) + x % 2 := by
 have h1 : (L.set k (x / 2)).drop k = (x / 2) :: L.drop (k + 1) := by
  rw [List.drop_eq_getElem_cons (by rw [List.length_set];omega),List.getElem_set_self,List.drop_set_of_lt (by omega)]
 rw [List.drop_eq_getElem_cons (show k < a.length by omega),h1,dval,dval,h]
 omega
set_option maxHeartbeats 4000000 in
set_option maxRecDepth 100000 in
theorem rhalf (v : Value) (m : Nat) (w : World) (h : DV w v m) (lm : (digs m).length ≤ 1000) :
  Calls Try.prog 94 #[v] w (SomeDig (m / 2) w) := by
 unfold DV at h
 have SA := hide (dsmall_digs m)
 have em := hide (dval_digs m)
 obtain ⟨a,hae⟩ : ∃ a,a = digs m := ⟨_,rfl⟩
 rw [← hae] at h SA em lm
 clear hae
 obtain ⟨aa,ca,rfl,hla,hca,hra⟩ := Rd.form h
 clear h
 go_enter Try.func94,Try.ntmps94
 go_wp2_with (with_reducible refine wpList_make_row _ rfl _ _ 51 rfl 3 (.int .i64 0) 8 Try.underlying51 infoInt rfl .i64 .i64 _ _ a.length a.length rfl rfl (by omega) (by omega) (Nat.le_refl _) (by omega) (by omega) ?_;intro w2 hrow hb2 hz2)
 obtain ⟨g,hg⟩ : ∃ g,g = w.heap.size := ⟨_,rfl⟩
 have hgs : w.heap.size ≤ g := by omega
 rw [← hg] at hrow ⊢
 clear hz2 hg
 go_wp2
 go_loopw [4,5] (fun tr ti wr => ∃ (k r : Nat) (L : List Nat),k ≤ a.length ∧ tr = .int .i64 (r : Int) ∧ ti = .int .i64 ((k : Int) - 1) ∧ r ≤ 1 ∧ Row wr g 3 (L.map D64) ∧ Hid (L.length = a.length) ∧ Hid (DSmall L) ∧ Hid (dval (a.drop k) = 2 * dval (L.drop k) + r) ∧ w2.grownBy wr (some g)) (fun _ ti _ => (intOf ti + 1).toNat)
 case atStart =>
  exact ⟨a.length,0,List.replicate a.length 0,Nat.le_refl _,rfl,rfl,by omega,by rw [List.map_replicate];exact hrow,by show _ = _;simp,dsmall_zeros _,by show _ = _;simp [dval],Gb.refl _ _⟩
 case round =>
  obtain ⟨k,r,L,hk,rfl,rfl,hr,hrow,hLl,hLs,hLv,hgb⟩ := hrel
  by_cases hk0 : k = 0
  ·subst hk0
   have hv := hLv.out
   simp only [List.drop_zero] at hv
   rw [em.out] at hv
   have hq : Hid (dval L = m / 2) := by show _ = _;omega
   have hrd := hrow.rdAll (n := a.length) (c := a.length) hLl.out.symm (Nat.le_refl _) (by omega)
   have cT := hide (rtrim _ L _ hrd hLs.out)
   rw [hq.out] at cT
   have hbel := Gb.bel hb2 hgb hgs
   clear hv hLv hrd hq
   go_wp2_with fail
   refine cT.out.mono ?_
   rintro e w5 ⟨u,rfl,hu,hb5,hown⟩
   obtain ⟨ua,un,uc,rfl⟩ := Rd.shape hu
   go_wp2
   go_ret
   exact ⟨_,rfl,hu,Bel.to hbel hb5,fun q hq => by have h9 := hown q hq;simp [Value.ownBlock] at h9;omega⟩
  ·obtain ⟨j,rfl⟩ : ∃ j,k = j + 1 := ⟨k - 1,by omega⟩
   have ej : (((j + 1 : Nat) : Int) - 1) = (j : Int) := by omega
   rw [ej]
   clear ej hk0
   have hja : j < a.length := by omega
   have hLlo := hLl.out
   have hjL : j < L.length := by omega
   obtain ⟨b,off,rfl,hb,hcell⟩ := hra.at_ hja
   have hbg : b ≠ g := by omega
   have e1 := Gb.cellOf hgb (Bel.cellOf hb2 (hcell j hja)) hbg
   have e3 := hrow.cellV hjL
   have e4 := hrow.frozen j
   have hds := dsmall_get SA.out hja
   obtain ⟨d,hd⟩ : ∃ d,d = a[j] := ⟨_,rfl⟩
   rw [← hd] at e1 hds
   obtain ⟨x,hx⟩ : ∃ x,x = 65536 * r + d := ⟨_,rfl⟩
   have hst := hide (half_step (L := L) (x := x) (show j + 1 ≤ a.length by omega) hLl.out hLv.out (by rw [hx,hd]))
   have xi : ((65536 : Int) * (r : Int) + (d : Int)) = (x : Int) := by omega
   have xb : x < 131072 := by omega
   obtain ⟨q,hq⟩ : ∃ q,q = x / 2 := ⟨_,rfl⟩
   obtain ⟨s,hs⟩ : ∃ s,s = x % 2 := ⟨_,rfl⟩
   rw [← hq,← hs] at hst
   have qi : (x : Int) / 2 = (q : Int) := by omega
   have si : (x : Int) % 2 = (s : Int) := by omega
   have qt : (x : Int).tdiv 2 = (q : Int) := by rw [Int.tdiv_eq_ediv_of_nonneg (by omega)];exact qi
   have st : (x : Int).tmod 2 = (s : Int) := by rw [Int.tmod_eq_emod_of_nonneg (by omega)];exact si
   have wq : IntKind.i64.wrap (q : Int) = (q : Int) := by rw [IntKind.wrap_i64];omega
   have qb : q < 65536 := by omega
   have sb : s ≤ 1 := by omega
   clear hcell hLlo hd hx hLv hq hs qi si
   go_wp2
   go_roundw
   case rel =>
    exact ⟨j,s,L.set j q,by omega,rfl,by go_num,sb,hrow.setV j q,by show _ = _;rw [List.length_set];exact hLl.out,dsmall_set hLs.out j qb,hst,Gb.set hgb (.inl rfl) _⟩
   case measure => first | (simp [intOf];done) | (simp [intOf];omega)
theorem gcd_ee {x y : Nat} (hx : x % 2 = 0) (hy : y % 2 = 0) : Nat.gcd x y = 2 * Nat.gcd (x / 2) (y / 2) := by
 rw [← Nat.gcd_mul_left]
 congr 1 <;> omega
theorem gcd_odd {x y : Nat} (hx : x % 2 = 0) (hy : y % 2 ≠ 0) : Nat.gcd x y = Nat.gcd (x / 2) y := by
 have h : Nat.Coprime y 2 := by
  rw [Nat.coprime_comm]
  unfold Nat.Coprime
  rw [Nat.gcd_rec,show y % 2 = 1 by omega]
  exact Nat.gcd_one_left 2
 have e : x = 2 * (x / 2) := by omega
 rw [e,Nat.mul_div_cancel_left _ (by omega),Nat.gcd_comm,Nat.gcd_comm (x / 2)]
 exact Nat.Coprime.gcd_mul_left_cancel_right _ h.symm
theorem gcd_less {x y : Nat} (h : y ≤ x) : Nat.gcd x y = Nat.gcd (x - y) y := by
 have e : x = (x - y) + y := by omega
 conv => lhs;rw [e]
 rw [Nat.gcd_add_self_left]
theorem dig_head {m : Nat} (h : m ≠ 0) : (digs m).length ≠ 0 ∧ (digs m)[0]? = some (m % 65536) := by
 rw [digs_pos h]
 exact ⟨by simp,rfl⟩
theorem half_len {m k : Nat} (h : (digs m).length ≤ k) : (digs (m / 2)).length ≤ k := by
 have := digs_len_le (Nat.div_le_self m 2)
 omega
theorem sub_len {m n k : Nat} (h : (digs m).length ≤ k) : (digs (m - n)).length ≤ k := by
 have := digs_len_le (Nat.sub_le m n)
 omega
theorem pow_lt_of {t g z : Nat} (h : 2 ^ t * g = z) (hg : 0 < g) : 2 ^ t ≤ z := by
 have := Nat.mul_le_mul_left (2 ^ t) hg
 omega
theorem twos_lt {t g z k : Nat} (h : 2 ^ t * g = z) (hz : 0 < z) (hd : (digs z).length ≤ k) : t < 16 * k := by
 have h1 : z < 65536 ^ k := length_digs_lt.2 hd
 rw [show (65536 : Nat) = 2 ^ 16 by rfl,← Nat.pow_mul] at h1
 apply Nat.lt_of_not_le
 intro hc
 have h2 : 2 ^ (16 * k) ≤ 2 ^ t := Nat.pow_le_pow_right (by omega) hc
 have hg : 0 < g := by
  rcases Nat.eq_zero_or_pos g with h0 | h0
  ·rw [h0,Nat.mul_zero] at h;omega
  ·exact h0
 have h3 := pow_lt_of h hg
 omega
theorem pow_double {i t s z : Nat} (h : 2 ^ t * s = z) (hi : i ≤ t) : 2 ^ i * s ≤ z := by
 rw [← h]
 exact Nat.mul_le_mul_right s (Nat.pow_le_pow_right (by omega) hi)
set_option maxHeartbeats 16000000 in
set_option maxRecDepth 100000 in
theorem rgcd_any (va vb : Value) (m n : Nat) (w : World) (ha : NV w va m) (hb : NV w vb n) (hm : (limbs m).length ≤ 64) (hn : (limbs n).length ≤ 64) (h0 : 0 < m + n) :
  Calls Try.prog 69 #[.agg #[va],.agg #[vb]] w (NatC (Nat.gcd m n) 0 w) := by
 have dm := hide (digs_limbs_len hm)
 have dn := hide (digs_limbs_len hn)
 have hgz : 0 < Nat.gcd m n := by
  rcases Nat.eq_zero_or_pos m with h | h
  ·rw [h,Nat.gcd_zero_left];omega
  ·exact Nat.gcd_pos_of_pos_left n h
 have hgd : (digs (Nat.gcd m n)).length ≤ 128 := by
  rcases Nat.eq_zero_or_pos m with h | h
  ·rw [h,Nat.gcd_zero_left];exact dn.out
  ·have h1 := digs_len_le (Nat.gcd_le_left n h)
   have := dm.out
   omega
 obtain ⟨z,hz⟩ : ∃ z,z = Nat.gcd m n := ⟨_,rfl⟩
 rw [← hz] at hgz hgd ⊢
 replace hz := hide hz
 replace hgd := hide hgd
 obtain ⟨aa,la,ca,rfl⟩ := Rd.shape ha
 obtain ⟨ab,lb,cb,rfl⟩ := Rd.shape hb
 have rR0 : ∀ o o',Row (((w.alloc o).alloc o').alloc (.cells #[.slice none 0 0] 30)) (w.heap.size + 2) 30 [.slice none 0 0] := fun o o' => by
  have h := Row.new ((w.alloc o).alloc o') 30 [.slice none 0 0]
  simpa using h
 go_enter Try.func69,Try.ntmps69
 go_wp2_with fail
 refine (rvalid _ m _ (Rd.alloc (Rd.alloc (Rd.alloc ha _) _) _) hm).mono ?_
 rintro e w1 ⟨rfl,hb1⟩
 have c10 : w1.cell? ⟨w.heap.size,0,none⟩ = some (.slice aa la ca) := Bel.cellOf hb1 (by go_simp)
 have c11 : w1.cell? ⟨w.heap.size + 1,0,none⟩ = some (.slice ab lb cb) := Bel.cellOf hb1 (by go_simp)
 have rR := Row.keep (rR0 _ _) hb1
 have hbw := Bel.three _ _ _ hb1
 have hz1 : w.heap.size + 2 < w1.heap.size := by have := hb1.size;simp at this;omega
 clear hb1 rR0
 go_wp2_with fail
 refine (rvalid _ n _ (Rd.below hb hbw) hn).mono ?_
 rintro e w2 ⟨rfl,hb2⟩
 replace c10 := Bel.cellOf hb2 c10
 replace c11 := Bel.cellOf hb2 c11
 replace rR := Row.keep rR hb2
 replace hbw := Bel.to hbw hb2
 replace hz1 : w.heap.size + 2 < w2.heap.size := by have := hb2.size;omega
 clear hb2
 go_wp2_with fail
 refine (halves _ m _ (Rd.below ha hbw) (by omega)).mono ?_
 rintro e w3 ⟨xv,rfl,hxv,hb3,-⟩
 obtain ⟨xa,xn,xc,rfl⟩ := Rd.shape hxv
 replace c11 := Bel.cellOf hb3 c11
 replace rR := Row.keep rR hb3
 replace hbw := Bel.to hbw hb3
 replace hz1 : w.heap.size + 2 < w3.heap.size := by have := hb3.size;omega
 clear hb3 c10
 go_wp2_with fail
 refine (halves _ n _ (Rd.below hb hbw) (by omega)).mono ?_
 rintro e w4 ⟨yv,rfl,hyv,hb4,-⟩
 obtain ⟨ya,yn,yc,rfl⟩ := Rd.shape hyv
 replace rR := Row.keep rR hb4
 replace hbw := Bel.to hbw hb4
 replace hxv := Rd.below hxv hb4
 replace hz1 : w.heap.size + 2 < w4.heap.size := by have := hb4.size;omega
 clear hb4 c11 ha hb
 go_wp2
 go_loopg [6,7,8] (m + n) (fun gh tx ty tt wr => ∃ (x y t : Nat) (xa : Option Addr) (xn xc : Nat) (ya : Option Addr) (yn yc : Nat),gh = x + y ∧ tx = .slice xa xn xc ∧ ty = .slice ya yn yc ∧ tt = .int .i64 (t : Int) ∧ DV wr (.slice xa xn xc) x ∧ DV wr (.slice ya yn yc) y ∧ Hid (2 ^ t * Nat.gcd x y = z) ∧ Hid ((digs x).length ≤ 128) ∧ Hid ((digs y).length ≤ 128) ∧ Hid (0 < x + y) ∧ t < 1000000 ∧ Below w.heap.size w wr ∧ Row wr (w.heap.size + 2) 30 [.slice none 0 0])
 case atStart => exact ⟨m,n,0,xa,xn,xc,ya,yn,yc,rfl,rfl,rfl,rfl,hxv,hyv,by show _ = _;rw [Nat.pow_zero,Nat.one_mul,← hz.out],dm,dn,h0,by omega,hbw,rR⟩
 case round =>
  clear hxv hyv hbw rR hz1 dm dn
  obtain ⟨x,y,t,xa,xn,xc,ya,yn,yc,hgh,rfl,rfl,rfl,hx,hy,hg,dx,dy,hpos,htb,bel,rR⟩ := hrel
  replace hgh := hide hgh
  have htb2 : Hid (t + 1 < 1000000) := by show _ < _;have := twos_lt hg.out hgz hgd.out;omega
  have lx := Rd.len_eq hx
  have ly := Rd.len_eq hy
  by_cases hx0 : x = 0
  ·obtain rfl : xn = 0 := by rw [lx,hx0,digs_zero];rfl
   replace hx0 := hide hx0
   have hgs : Hid (2 ^ t * (x + y) = z) := by show _ = _;rw [← hg.out,hx0.out,Nat.gcd_zero_left,Nat.zero_add]
   clear lx ly hg htb2 hpos
   go_wp2_with fail
   refine (radd _ _ x y _ hx hy (by have := dx.out;omega) (by have := dy.out;omega)).mono ?_
   rintro e w5 ⟨lv,rfl,hl,hb5,-⟩
   obtain ⟨va,vn,vc,rfl⟩ := Rd.shape hl
   replace bel := Bel.to bel hb5
   replace rR := Row.keep rR hb5
   obtain ⟨s,hs⟩ : ∃ s,s = x + y := ⟨_,rfl⟩
   rw [← hs] at hl hgs
   clear hs hb5 hx hy
   go_wp2
   go_loopg [9,10] t (fun gh tl ti wr => ∃ (i : Nat) (va : Option Addr) (vn vc : Nat),gh = t - i ∧ i ≤ t ∧ tl = .slice va vn vc ∧ ti = .int .i64 (i : Int) ∧ DV wr (.slice va vn vc) (2 ^ i * s) ∧ Below w.heap.size w wr ∧ Row wr (w.heap.size + 2) 30 [.slice none 0 0])
   case atStart => exact ⟨0,va,vn,vc,rfl,Nat.zero_le _,rfl,rfl,by rw [Nat.pow_zero,Nat.one_mul];exact hl,bel,rR⟩
   case round =>
    clear hl bel rR
    obtain ⟨i,va,vn,vc,hgi,hi,rfl,rfl,hl,bel,rR⟩ := hrel
    replace hgi := hide hgi
    by_cases hit : i < t
    ·have hii : (i : Int) < (t : Int) := by omega
     have hdl : (digs (2 ^ i * s)).length ≤ 1000 := by
      have h1 := digs_len_le (pow_double hgs.out hi)
      have := hgd.out
      omega
     have hdb : Hid (2 ^ i * s + 2 ^ i * s = 2 ^ (i + 1) * s) := by show _ = _;rw [Nat.pow_succ];grind
     have hit2 := hide hit
     have cA := hide (radd _ _ (2 ^ i * s) (2 ^ i * s) _ hl hl hdl hdl)
     rw [hdb.out] at cA
     clear hdl hdb
     go_wp2_with fail
     refine cA.out.mono ?_
     rintro e w6 ⟨u,rfl,hu,hb6,-⟩
     obtain ⟨ua,un,uc,rfl⟩ := Rd.shape hu
     clear cA hl
     go_wp2
     go_roundg (t - (i + 1))
     case measure => have := hgi.out;have := hit2.out;omega
     case rel => exact ⟨i + 1,ua,un,uc,rfl,by have := hit2.out;omega,rfl,by go_num,hu,Bel.to bel hb6,Row.keep rR hb6⟩
    ·obtain rfl : i = t := by omega
     rw [hgs.out] at hl
     have hit2 : ¬ (i : Int) < (i : Int) := by omega
     go_wp2_with fail
     refine (whole_ok _ z _ hl hgd.out).mono ?_
     rintro e w7 ⟨u,rfl,hu,hb7⟩
     obtain ⟨ua,un,uc,rfl⟩ := Rd.shape hu
     replace bel := Bel.to bel hb7
     replace rR := Row.keep rR hb7
     go_upto_region 24 with (fail)
     obtain ⟨w8,hw8⟩ : ∃ X,X = w7.alloc (.cells #[.slice ua un uc] 30) := ⟨_,rfl⟩
     have b8 : Below w7.heap.size w7 w8 := by rw [hw8];exact Bel.al (Below.refl _ _) _
     have r8 : Row w8 w7.heap.size 30 [.slice ua un uc] := by rw [hw8];exact Row.newOf _ rfl
     rw [← hw8]
     clear hw8
     replace bel := Bel.to bel b8
     replace rR := Row.keep rR b8
     replace hu := Rd.below hu b8
     have c8 := r8.cell? 0
     have cR := rR.cell? 0
     have fR := rR.frozen 0
     simp only [List.getElem?_cons_zero] at c8 cR
     have hf := Rd.setNe hu cR (fun _ h => by cases h) (.slice ua un uc)
     have belf := Bel.st bel (p := ⟨w.heap.size + 2,0,none⟩) (by simp only [];omega) (.slice ua un uc)
     clear hu
     go_wp2
     exact bodyPost_ret (v := .tuple #[.agg #[.slice ua un uc],.int .i64 0]) (by simp [results,Try.results69,go_sem,cR]) rfl ⟨_,rfl,hf,belf⟩
  by_cases hy0 : y = 0
  ·obtain rfl : yn = 0 := by rw [ly,hy0,digs_zero];rfl
   have hxn : 0 < xn := by rw [lx,digs_pos hx0];simp
   have hxi : (0 : Int) < (xn : Int) := by omega
   replace hx0 := hide hx0
   replace hy0 := hide hy0
   have hgs : Hid (2 ^ t * (x + y) = z) := by show _ = _;rw [← hg.out,hy0.out,Nat.gcd_zero_right,Nat.add_zero]
   clear lx ly hg htb2 hpos
   go_wp2_with fail
   refine (radd _ _ x y _ hx hy (by have := dx.out;omega) (by have := dy.out;omega)).mono ?_
   rintro e w5 ⟨lv,rfl,hl,hb5,-⟩
   obtain ⟨va,vn,vc,rfl⟩ := Rd.shape hl
   replace bel := Bel.to bel hb5
   replace rR := Row.keep rR hb5
   obtain ⟨s,hs⟩ : ∃ s,s = x + y := ⟨_,rfl⟩
   rw [← hs] at hl hgs
   clear hs hb5 hx hy
   go_wp2
   go_loopg [9,10] t (fun gh tl ti wr => ∃ (i : Nat) (va : Option Addr) (vn vc : Nat),gh = t - i ∧ i ≤ t ∧ tl = .slice va vn vc ∧ ti = .int .i64 (i : Int) ∧ DV wr (.slice va vn vc) (2 ^ i * s) ∧ Below w.heap.size w wr ∧ Row wr (w.heap.size + 2) 30 [.slice none 0 0])
   case atStart => exact ⟨0,va,vn,vc,rfl,Nat.zero_le _,rfl,rfl,by rw [Nat.pow_zero,Nat.one_mul];exact hl,bel,rR⟩
   case round =>
    clear hl bel rR
    obtain ⟨i,va,vn,vc,hgi,hi,rfl,rfl,hl,bel,rR⟩ := hrel
    replace hgi := hide hgi
    by_cases hit : i < t
    ·have hii : (i : Int) < (t : Int) := by omega
     have hdl : (digs (2 ^ i * s)).length ≤ 1000 := by
      have h1 := digs_len_le (pow_double hgs.out hi)
      have := hgd.out
      omega
     have hdb : Hid (2 ^ i * s + 2 ^ i * s = 2 ^ (i + 1) * s) := by show _ = _;rw [Nat.pow_succ];grind
     have hit2 := hide hit
     have cA := hide (radd _ _ (2 ^ i * s) (2 ^ i * s) _ hl hl hdl hdl)
     rw [hdb.out] at cA
     clear hdl hdb
     go_wp2_with fail
     refine cA.out.mono ?_
     rintro e w6 ⟨u,rfl,hu,hb6,-⟩
     obtain ⟨ua,un,uc,rfl⟩ := Rd.shape hu
     clear cA hl
     go_wp2
     go_roundg (t - (i + 1))
     case measure => have := hgi.out;have := hit2.out;omega
     case rel => exact ⟨i + 1,ua,un,uc,rfl,by have := hit2.out;omega,rfl,by go_num,hu,Bel.to bel hb6,Row.keep rR hb6⟩
    ·obtain rfl : i = t := by omega
     rw [hgs.out] at hl
     have hit2 : ¬ (i : Int) < (i : Int) := by omega
     go_wp2_with fail
     refine (whole_ok _ z _ hl hgd.out).mono ?_
     rintro e w7 ⟨u,rfl,hu,hb7⟩
     obtain ⟨ua,un,uc,rfl⟩ := Rd.shape hu
     replace bel := Bel.to bel hb7
     replace rR := Row.keep rR hb7
     go_upto_region 24 with (fail)
     obtain ⟨w8,hw8⟩ : ∃ X,X = w7.alloc (.cells #[.slice ua un uc] 30) := ⟨_,rfl⟩
     have b8 : Below w7.heap.size w7 w8 := by rw [hw8];exact Bel.al (Below.refl _ _) _
     have r8 : Row w8 w7.heap.size 30 [.slice ua un uc] := by rw [hw8];exact Row.newOf _ rfl
     rw [← hw8]
     clear hw8
     replace bel := Bel.to bel b8
     replace rR := Row.keep rR b8
     replace hu := Rd.below hu b8
     have c8 := r8.cell? 0
     have cR := rR.cell? 0
     have fR := rR.frozen 0
     simp only [List.getElem?_cons_zero] at c8 cR
     have hf := Rd.setNe hu cR (fun _ h => by cases h) (.slice ua un uc)
     have belf := Bel.st bel (p := ⟨w.heap.size + 2,0,none⟩) (by simp only [];omega) (.slice ua un uc)
     clear hu
     go_wp2
     exact bodyPost_ret (v := .tuple #[.agg #[.slice ua un uc],.int .i64 0]) (by simp [results,Try.results69,go_sem,cR]) rfl ⟨_,rfl,hf,belf⟩
  have hxn : 0 < xn := by rw [lx,digs_pos hx0];simp
  have hyn : 0 < yn := by rw [ly,digs_pos hy0];simp
  have hxi : (0 : Int) < (xn : Int) := by omega
  have hyi : (0 : Int) < (yn : Int) := by omega
  have kx : 0 < (digs x).length := by omega
  have ky : 0 < (digs y).length := by omega
  obtain ⟨bx,ox,rfl,hbx,hcx⟩ := Rd.at_ hx kx
  obtain ⟨by_,oy,rfl,hby,hcy⟩ := Rd.at_ hy ky
  have ex : wr.cell? ⟨bx,ox,none⟩ = some (.int .i64 ((x % 65536 : Nat) : Int)) := by
   have h1 := hcx 0 kx
   have h2 := (dig_head hx0).2
   rw [List.getElem?_eq_getElem kx] at h2
   rw [Option.some.inj h2] at h1
   exact h1
  have ey : wr.cell? ⟨by_,oy,none⟩ = some (.int .i64 ((y % 65536 : Nat) : Int)) := by
   have h1 := hcy 0 ky
   have h2 := (dig_head hy0).2
   rw [List.getElem?_eq_getElem ky] at h2
   rw [Option.some.inj h2] at h1
   exact h1
  obtain ⟨ux,hux⟩ : ∃ u,u = x % 65536 := ⟨_,rfl⟩
  obtain ⟨uy,huy⟩ : ∃ u,u = y % 65536 := ⟨_,rfl⟩
  rw [← hux] at ex
  rw [← huy] at ey
  have ux2 : ux % 2 = x % 2 := by omega
  have uy2 : uy % 2 = y % 2 := by omega
  have uxb : ux < 65536 := by omega
  have uyb : uy < 65536 := by omega
  replace hux := hide hux
  replace huy := hide huy
  replace hx0 := hide hx0
  replace hy0 := hide hy0
  clear hcx hcy lx ly kx ky
  by_cases px : x % 2 = 0
  ·have pxi : (ux : Int).tmod 2 = 0 := by rw [Int.tmod_eq_emod_of_nonneg (by omega)];omega
   by_cases py : y % 2 = 0
   ·have pyi : (uy : Int).tmod 2 = 0 := by rw [Int.tmod_eq_emod_of_nonneg (by omega)];omega
    have hg2 : Hid (2 ^ (t + 1) * Nat.gcd (x / 2) (y / 2) = z) := by show _ = _;rw [← hg.out,gcd_ee px py,Nat.pow_succ,Nat.mul_assoc]
    have hp2 : Hid (0 < x / 2 + y / 2) := by show _ < _;have := hx0.out;omega
    have hms : Hid (x / 2 + y / 2 < x + y) := by show _ < _;have := hpos.out;omega
    clear ux2 uy2 px py hg
    go_wp2_with fail
    refine (rhalf _ x _ hx (by have := dx.out;omega)).mono ?_
    rintro e w5 ⟨u,rfl,hu,hb5,-⟩
    obtain ⟨ua,un,uc,rfl⟩ := Rd.shape hu
    replace hy := Rd.below hy hb5
    replace bel := Bel.to bel hb5
    replace rR := Row.keep rR hb5
    clear hx ex ey
    go_wp2_with fail
    refine (rhalf _ y _ hy (by have := dy.out;omega)).mono ?_
    rintro e w6 ⟨u2,rfl,hu2,hb6,-⟩
    obtain ⟨ua2,un2,uc2,rfl⟩ := Rd.shape hu2
    go_wp2
    go_roundg (x / 2 + y / 2)
    case measure => have := hgh.out;have := hms.out;omega
    case rel => exact ⟨x / 2,y / 2,t + 1,ua,un,uc,ua2,un2,uc2,rfl,rfl,rfl,by go_num,Rd.below hu hb6,hu2,hg2,half_len dx.out,half_len dy.out,hp2,htb2.out,Bel.to bel hb6,Row.keep rR hb6⟩
   ·have pyi : (uy : Int).tmod 2 = 1 := by rw [Int.tmod_eq_emod_of_nonneg (by omega)];omega
    have hg2 : Hid (2 ^ t * Nat.gcd (x / 2) y = z) := by show _ = _;rw [← hg.out,gcd_odd px py]
    have hp2 : Hid (0 < x / 2 + y) := by show _ < _;have := hx0.out;have := hy0.out;omega
    have hms : Hid (x / 2 + y < x + y) := by show _ < _;have := hx0.out;have := hy0.out;omega
    clear ux2 uy2 px py hg
    go_wp2_with fail
    refine (rhalf _ x _ hx (by have := dx.out;omega)).mono ?_
    rintro e w5 ⟨u,rfl,hu,hb5,-⟩
    obtain ⟨ua,un,uc,rfl⟩ := Rd.shape hu
    go_wp2
    go_roundg (x / 2 + y)
    case measure => have := hgh.out;have := hms.out;omega
    case rel => exact ⟨x / 2,y,t,ua,un,uc,some ⟨by_,oy,none⟩,yn,yc,rfl,rfl,rfl,rfl,hu,Rd.below hy hb5,hg2,half_len dx.out,dy,hp2,htb,Bel.to bel hb5,Row.keep rR hb5⟩
  ·have pxi : (ux : Int).tmod 2 = 1 := by rw [Int.tmod_eq_emod_of_nonneg (by omega)];omega
   by_cases py : y % 2 = 0
   ·have pyi : (uy : Int).tmod 2 = 0 := by rw [Int.tmod_eq_emod_of_nonneg (by omega)];omega
    have hg2 : Hid (2 ^ t * Nat.gcd x (y / 2) = z) := by show _ = _;rw [← hg.out,Nat.gcd_comm x y,gcd_odd py px,Nat.gcd_comm]
    have hp2 : Hid (0 < x + y / 2) := by show _ < _;have := hx0.out;have := hy0.out;omega
    have hms : Hid (x + y / 2 < x + y) := by show _ < _;have := hx0.out;have := hy0.out;omega
    clear ux2 uy2 px py hg
    go_wp2_with fail
    refine (rhalf _ y _ hy (by have := dy.out;omega)).mono ?_
    rintro e w5 ⟨u,rfl,hu,hb5,-⟩
    obtain ⟨ua,un,uc,rfl⟩ := Rd.shape hu
    go_wp2
    go_roundg (x + y / 2)
    case measure => have := hgh.out;have := hms.out;omega
    case rel => exact ⟨x,y / 2,t,some ⟨bx,ox,none⟩,xn,xc,ua,un,uc,rfl,rfl,rfl,rfl,Rd.below hx hb5,hu,hg2,dx,half_len dy.out,hp2,htb,Bel.to bel hb5,Row.keep rR hb5⟩
   ·have pyi : (uy : Int).tmod 2 = 1 := by rw [Int.tmod_eq_emod_of_nonneg (by omega)];omega
    clear ux2 uy2 px py
    by_cases hle : y ≤ x
    ·have hcv : ¬ cmpV x y < 0 := by unfold cmpV;rw [if_neg (by omega)];split <;> omega
     have hg2 : Hid (2 ^ t * Nat.gcd (x - y) y = z) := by show _ = _;rw [← hg.out,gcd_less hle]
     have hp2 : Hid (0 < x - y + y) := by show _ < _;have := hx0.out;have := hy0.out;omega
     have hms : Hid (x - y + y < x + y) := by show _ < _;have := hx0.out;have := hy0.out;omega
     have hle2 : Hid (y ≤ x) := by show _ ≤ _;omega
     obtain ⟨cv,hcvd⟩ : ∃ cv,cv = cmpV x y := ⟨_,rfl⟩
     rw [← hcvd] at hcv
     replace hcvd := hide hcvd
     clear hg hle
     go_wp2_with fail
     refine (rcmp _ _ x y _ hx hy).mono ?_
     rintro e w9 ⟨rfl,hb9⟩
     rw [← hcvd.out]
     have hx9 : DV w9 (.slice (some ⟨bx,ox,none⟩) xn xc) x := Rd.below hx hb9
     have hy9 : DV w9 (.slice (some ⟨by_,oy,none⟩) yn yc) y := Rd.below hy hb9
     have bel9 : Below w.heap.size w w9 := Bel.to bel hb9
     have rR9 : Row w9 (w.heap.size + 2) 30 [.slice none 0 0] := Row.keep rR hb9
     clear hb9 hx hy bel rR ex ey
     go_wp2_with fail
     refine (rsub _ _ x y _ hx9 hy9 hle2.out (by have := dx.out;omega)).mono ?_
     rintro e w5 ⟨u,rfl,hu,hb5,-⟩
     obtain ⟨ua,un,uc,rfl⟩ := Rd.shape hu
     go_wp2
     go_roundg (x - y + y)
     case measure => have := hgh.out;have := hms.out;omega
     case rel => exact ⟨x - y,y,t,ua,un,uc,some ⟨by_,oy,none⟩,yn,yc,rfl,rfl,rfl,rfl,hu,Rd.below hy9 hb5,hg2,sub_len dx.out,dy,hp2,htb,Bel.to bel9 hb5,Row.keep rR9 hb5⟩
    ·have hcv : cmpV x y < 0 := by unfold cmpV;rw [if_pos (by omega)];omega
     have hg2 : Hid (2 ^ t * Nat.gcd x (y - x) = z) := by show _ = _;rw [← hg.out,Nat.gcd_comm x y,gcd_less (show x ≤ y by omega),Nat.gcd_comm]
     have hp2 : Hid (0 < x + (y - x)) := by show _ < _;have := hx0.out;have := hy0.out;omega
     have hms : Hid (x + (y - x) < x + y) := by show _ < _;have := hx0.out;have := hy0.out;omega
     have hle2 : Hid (x ≤ y) := by show _ ≤ _;omega
     obtain ⟨cv,hcvd⟩ : ∃ cv,cv = cmpV x y := ⟨_,rfl⟩
     rw [← hcvd] at hcv
     replace hcvd := hide hcvd
     clear hg hle
     go_wp2_with fail
     refine (rcmp _ _ x y _ hx hy).mono ?_
     rintro e w9 ⟨rfl,hb9⟩
     rw [← hcvd.out]
     have hx9 : DV w9 (.slice (some ⟨bx,ox,none⟩) xn xc) x := Rd.below hx hb9
     have hy9 : DV w9 (.slice (some ⟨by_,oy,none⟩) yn yc) y := Rd.below hy hb9
     have bel9 : Below w.heap.size w w9 := Bel.to bel hb9
     have rR9 : Row w9 (w.heap.size + 2) 30 [.slice none 0 0] := Row.keep rR hb9
     clear hb9 hx hy bel rR ex ey
     go_wp2_with fail
     refine (rsub _ _ y x _ hy9 hx9 hle2.out (by have := dy.out;omega)).mono ?_
     rintro e w5 ⟨u,rfl,hu,hb5,-⟩
     obtain ⟨ua,un,uc,rfl⟩ := Rd.shape hu
     go_wp2
     go_roundg (x + (y - x))
     case measure => have := hgh.out;have := hms.out;omega
     case rel => exact ⟨x,y - x,t,some ⟨bx,ox,none⟩,xn,xc,ua,un,uc,rfl,rfl,rfl,rfl,Rd.below hx9 hb5,hu,hg2,dx,sub_len dy.out,hp2,htb,Bel.to bel9 hb5,Row.keep rR9 hb5⟩
theorem limbs_63 {m : Nat} (h : m ≤ 9223372036854775807) : (limbs m).length ≤ 64 := by
 have e : (4294967296 : Nat) ^ 2 = 18446744073709551616 := by decide
 have h1 : m < 4294967296 ^ 2 := by omega
 have h2 := length_limbs_lt.1 h1
 omega
set_option maxHeartbeats 16000000 in
set_option maxRecDepth 100000 in
theorem rreduce_ok (va vb : Value) (m n : Nat) (w : World) (ha : NV w va m) (hb : NV w vb n) (hm : (limbs m).length ≤ 64) (hn : (limbs n).length ≤ 64) (h0 : 0 < n) :
  Calls Try.prog 39 #[.agg #[va],.agg #[vb]] w (FracC (m / Nat.gcd m n) (n / Nat.gcd m n) 0 w) := by
 have hg0 : 0 < Nat.gcd m n := Nat.gcd_pos_of_pos_right m h0
 have hgl : (limbs (Nat.gcd m n)).length ≤ 64 := by
  have h1 := limbs_len_le (Nat.gcd_le_right m h0)
  omega
 obtain ⟨aa,la,ca,rfl⟩ := Rd.shape ha
 obtain ⟨ab,lb,cb,rfl⟩ := Rd.shape hb
 have rA0 : ∀ o o',Row (((w.alloc (.cells #[.slice aa la ca] 30)).alloc o).alloc o') w.heap.size 30 [.slice aa la ca] := fun o o' => ((Row.newOf 30 rfl).alloc o).alloc o'
 have rB0 : ∀ o o',Row (((w.alloc o).alloc (.cells #[.slice ab lb cb] 30)).alloc o') (w.heap.size + 1) 30 [.slice ab lb cb] := fun o o' => by
  have h := (Row.new (w.alloc o) 30 [.slice ab lb cb]).alloc o'
  simpa using h
 have rR0 : ∀ o o',Row (((w.alloc o).alloc o').alloc (.cells #[.slice none 0 0,.slice none 0 0] 36)) (w.heap.size + 2) 36 [.slice none 0 0,.slice none 0 0] := fun o o' => by
  have h := Row.new ((w.alloc o).alloc o') 36 [.slice none 0 0,.slice none 0 0]
  simpa using h
 go_enter Try.func39,Try.ntmps39
 go_wp2_with fail
 refine (rgcd_any _ _ m n _ (Rd.alloc (Rd.alloc (Rd.alloc ha _) _) _) (Rd.alloc (Rd.alloc (Rd.alloc hb _) _) _) hm hn (by omega)).mono ?_
 rintro e w3 ⟨u,rfl,hu,hb3⟩
 obtain ⟨gu,gl,gc,rfl⟩ := Rd.shape hu
 have rA := Row.keep (rA0 _ _) hb3
 have rB := Row.keep (rB0 _ _) hb3
 have rR := Row.keep (rR0 _ _) hb3
 have hbw := Bel.three _ _ _ hb3
 clear rA0 rB0 rR0
 replace ha := Rd.below ha hbw
 replace hb := Rd.below hb hbw
 go_upto_region 2 with (fail)
 obtain ⟨w4,hw4⟩ : ∃ X,X = w3.alloc (.cells #[.slice gu gl gc] 30) := ⟨_,rfl⟩
 have bw4 : Below w3.heap.size w3 w4 := by rw [hw4];exact Bel.al (Below.refl _ _) _
 have rG : Row w4 w3.heap.size 30 [.slice gu gl gc] := by rw [hw4];exact Row.newOf _ rfl
 rw [← hw4]
 clear hw4
 replace rA := Row.keep rA bw4
 replace rB := Row.keep rB bw4
 replace rR := Row.keep rR bw4
 replace ha := Rd.below ha bw4
 replace hb := Rd.below hb bw4
 replace hu := Rd.below hu bw4
 replace hbw := Bel.to hbw bw4
 clear bw4 hb3
 have crA := rA.cell? 0
 simp only [List.getElem?_cons_zero] at crA
 have crB := rB.cell? 0
 simp only [List.getElem?_cons_zero] at crB
 have crG := rG.cell? 0
 simp only [List.getElem?_cons_zero] at crG
 go_wp2_with fail
 refine (rdivmod _ _ m (Nat.gcd m n) _ ha hu hm hgl hg0).mono ?_
 rintro e w5 ⟨q,r,rfl,hq,hr,hb5⟩
 obtain ⟨qu,ql,qc,rfl⟩ := Rd.shape hq
 obtain ⟨ru,rl,rc,rfl⟩ := Rd.shape hr
 clear crA crB crG
 replace rA := Row.keep rA hb5
 replace rB := Row.keep rB hb5
 replace rR := Row.keep rR hb5
 replace rG := Row.keep rG hb5
 replace hb := Rd.below hb hb5
 replace hu := Rd.below hu hb5
 replace hbw := Bel.to hbw hb5
 go_upto_region 5 with (fail)
 obtain ⟨w6,hw6⟩ : ∃ X,X = (w5.alloc (.cells #[.slice qu ql qc] 30)).alloc (.cells #[.slice ru rl rc] 30) := ⟨_,rfl⟩
 have bw6 : Below w5.heap.size w5 w6 := by rw [hw6];exact Bel.al (Bel.al (Below.refl _ _) _) _
 have rQ : Row w6 w5.heap.size 30 [.slice qu ql qc] := by rw [hw6];exact (Row.newOf _ rfl).alloc _
 rw [← hw6]
 clear hw6
 replace rA := Row.keep rA bw6
 replace rB := Row.keep rB bw6
 replace rR := Row.keep rR bw6
 replace rG := Row.keep rG bw6
 replace hb := Rd.below hb bw6
 replace hu := Rd.below hu bw6
 replace hq := Rd.below hq bw6
 replace hbw := Bel.to hbw bw6
 clear bw6 hb5 hr ha
 have crB := rB.cell? 0
 simp only [List.getElem?_cons_zero] at crB
 have crG := rG.cell? 0
 simp only [List.getElem?_cons_zero] at crG
 go_wp2_with fail
 refine (rdivmod _ _ n (Nat.gcd m n) _ hb hu hn hgl hg0).mono ?_
 rintro e w7 ⟨p,r2,rfl,hp,hr2,hb7⟩
 obtain ⟨pu,pl,pc,rfl⟩ := Rd.shape hp
 obtain ⟨su,sl,sc,rfl⟩ := Rd.shape hr2
 clear crB crG
 replace rR := Row.keep rR hb7
 replace rQ := Row.keep rQ hb7
 replace hq := Rd.below hq hb7
 replace hbw := Bel.to hbw hb7
 go_upto_region 6 with (fail)
 obtain ⟨w8,hw8⟩ : ∃ X,X = (w7.alloc (.cells #[.slice pu pl pc] 30)).alloc (.cells #[.slice su sl sc] 30) := ⟨_,rfl⟩
 have bw8 : Below w7.heap.size w7 w8 := by rw [hw8];exact Bel.al (Bel.al (Below.refl _ _) _) _
 have rP : Row w8 w7.heap.size 30 [.slice pu pl pc] := by rw [hw8];exact (Row.newOf _ rfl).alloc _
 rw [← hw8]
 clear hw8
 replace rR := Row.keep rR bw8
 replace rQ := Row.keep rQ bw8
 replace hq := Rd.below hq bw8
 replace hp := Rd.below hp bw8
 replace hbw := Bel.to hbw bw8
 clear bw8 hb7 hr2 hb hu rA rB rG
 have crQ := rQ.cell? 0
 simp only [List.getElem?_cons_zero] at crQ
 have crP := rP.cell? 0
 simp only [List.getElem?_cons_zero] at crP
 have cR0 := rR.cell? 0
 have cR1 := rR.cell? 1
 simp only [List.getElem?_cons_zero,List.getElem?_cons_succ] at cR0 cR1
 have fR0 := rR.frozen 0
 have fR1 := rR.frozen 1
 have hq2 := (Rd.setNe hq cR0 (fun _ h => by cases h) (.slice qu ql qc))
 have c1' := (rR.set 0 (.slice qu ql qc)).cell? 1
 simp only [zsB,List.getElem?_cons_zero,List.getElem?_cons_succ] at c1'
 have hq3 := hq2.setNe c1' (fun _ h => by cases h) (.slice pu pl pc)
 have hp3 := (Rd.setNe hp cR0 (fun _ h => by cases h) (.slice qu ql qc)).setNe c1' (fun _ h => by cases h) (.slice pu pl pc)
 have bel := Bel.st (Bel.st hbw (p := ⟨w.heap.size + 2,0,none⟩) (by simp only [];omega) (.slice qu ql qc)) (p := ⟨w.heap.size + 2,1,none⟩) (by simp only [];omega) (.slice pu pl pc)
 have rF := (rR.set 0 (.slice qu ql qc)).set 1 (.slice pu pl pc)
 simp only [zsB,zsC] at rF
 have cF0 := rF.cell? 0
 have cF1 := rF.cell? 1
 simp only [List.getElem?_cons_zero,List.getElem?_cons_succ] at cF0 cF1
 clear hq hp hq2 c1' rQ rP hbw
 go_wp2
 exact bodyPost_ret (v := .tuple #[.agg #[.slice qu ql qc,.slice pu pl pc],.int .i64 0]) (by simp [results,Try.results39,go_sem,cF0,cF1]) rfl ⟨_,_,rfl,hq3,hp3,bel⟩
set_option maxHeartbeats 16000000 in
set_option maxRecDepth 100000 in
theorem rmake_ok (va vb : Value) (m n : Nat) (w : World) (ha : NV w va m) (hb : NV w vb n) (hm : (limbs m).length ≤ 64) (hn : (limbs n).length ≤ 64) (h0 : 0 < n) :
  Calls Try.prog 18 #[.agg #[va],.agg #[vb]] w (FracC (m / Nat.gcd m n) (n / Nat.gcd m n) 0 w) := by
 have hbl : (0 : Nat) < (limbs n).length := by rw [limbs_pos (by omega)];simp
 have hlb := hide (fun (ab : Option Addr) (lb cb : Nat) (X : World) (h : NV X (.slice ab lb cb) n) => (Rd.len_eq h : lb = _))
 obtain ⟨aa,la,ca,rfl⟩ := Rd.shape ha
 obtain ⟨ab,lb,cb,rfl⟩ := Rd.shape hb
 have rA0 : ∀ o o',Row (((w.alloc (.cells #[.slice aa la ca] 30)).alloc o).alloc o') w.heap.size 30 [.slice aa la ca] := fun o o' => ((Row.newOf 30 rfl).alloc o).alloc o'
 have rB0 : ∀ o o',Row (((w.alloc o).alloc (.cells #[.slice ab lb cb] 30)).alloc o') (w.heap.size + 1) 30 [.slice ab lb cb] := fun o o' => by
  have h := (Row.new (w.alloc o) 30 [.slice ab lb cb]).alloc o'
  simpa using h
 have rR0 : ∀ o o',Row (((w.alloc o).alloc o').alloc (.cells #[.slice none 0 0,.slice none 0 0] 36)) (w.heap.size + 2) 36 [.slice none 0 0,.slice none 0 0] := fun o o' => by
  have h := Row.new ((w.alloc o).alloc o') 36 [.slice none 0 0,.slice none 0 0]
  simpa using h
 go_enter Try.func18,Try.ntmps18
 have lb0 : 0 < lb := by rw [hlb.out ab lb cb w hb];exact hbl
 have lbi : ¬ (lb : Int) = 0 := by omega
 clear hlb hbl
 go_wp2_with fail
 refine (rvalid _ m _ (Rd.alloc (Rd.alloc (Rd.alloc ha _) _) _) hm).mono ?_
 rintro e w1 ⟨rfl,hb1⟩
 have rA := Row.keep (rA0 _ _) hb1
 have rB := Row.keep (rB0 _ _) hb1
 have rR := Row.keep (rR0 _ _) hb1
 have hbw := Bel.three _ _ _ hb1
 have hz : w.heap.size + 2 < w1.heap.size := by have := hb1.size;simp at this;omega
 clear rA0 rB0 rR0 hb1
 have crA := rA.cell? 0
 simp only [List.getElem?_cons_zero] at crA
 have crB := rB.cell? 0
 simp only [List.getElem?_cons_zero] at crB
 go_wp2_with fail
 refine (rvalid _ n _ (Rd.below hb hbw) hn).mono ?_
 rintro e w2 ⟨rfl,hb2⟩
 clear crA crB
 replace rA := Row.keep rA hb2
 replace rB := Row.keep rB hb2
 replace rR := Row.keep rR hb2
 replace hbw := Bel.to hbw hb2
 replace ha := Rd.below ha hbw
 replace hb := Rd.below hb hbw
 clear hb2 hz
 have crA := rA.cell? 0
 simp only [List.getElem?_cons_zero] at crA
 have crB := rB.cell? 0
 simp only [List.getElem?_cons_zero] at crB
 go_wp2_with fail
 refine (rreduce_ok _ _ m n _ ha hb hm hn h0).mono ?_
 rintro e w3 ⟨q,p,rfl,hq,hp,hb3⟩
 obtain ⟨qu,ql,qc,rfl⟩ := Rd.shape hq
 obtain ⟨pu,pl,pc,rfl⟩ := Rd.shape hp
 clear crA crB
 replace rR := Row.keep rR hb3
 replace hbw := Bel.to hbw hb3
 clear hb3 rA rB ha hb
 have cR0 := rR.cell? 0
 have cR1 := rR.cell? 1
 simp only [List.getElem?_cons_zero,List.getElem?_cons_succ] at cR0 cR1
 have fR0 := rR.frozen 0
 have fR1 := rR.frozen 1
 have hq2 := (Rd.setNe hq cR0 (fun _ h => by cases h) (.slice qu ql qc))
 have c1' := (rR.set 0 (.slice qu ql qc)).cell? 1
 simp only [zsB,List.getElem?_cons_zero,List.getElem?_cons_succ] at c1'
 have hq3 := hq2.setNe c1' (fun _ h => by cases h) (.slice pu pl pc)
 have hp3 := (Rd.setNe hp cR0 (fun _ h => by cases h) (.slice qu ql qc)).setNe c1' (fun _ h => by cases h) (.slice pu pl pc)
 have bel := Bel.st (Bel.st hbw (p := ⟨w.heap.size + 2,0,none⟩) (by simp only [];omega) (.slice qu ql qc)) (p := ⟨w.heap.size + 2,1,none⟩) (by simp only [];omega) (.slice pu pl pc)
 have rF := (rR.set 0 (.slice qu ql qc)).set 1 (.slice pu pl pc)
 simp only [zsB,zsC] at rF
 have cF0 := rF.cell? 0
 have cF1 := rF.cell? 1
 simp only [List.getElem?_cons_zero,List.getElem?_cons_succ] at cF0 cF1
 clear hq hp hq2 c1' hbw
 go_wp2
 exact bodyPost_ret (v := .tuple #[.agg #[.slice qu ql qc,.slice pu pl pc],.int .i64 0]) (by simp [results,Try.results18,go_sem,cF0,cF1]) rfl ⟨_,_,rfl,hq3,hp3,bel⟩
set_option maxHeartbeats 4000000 in
set_option maxRecDepth 100000 in
theorem rfof_ok (m n : Nat) (w : World) (hm : m ≤ 9223372036854775807) (hn : n ≤ 9223372036854775807) (h0 : 0 < n) :
  Calls Try.prog 13 #[.int .i64 (m : Int),.int .i64 (n : Int)] w (FracC (m / Nat.gcd m n) (n / Nat.gcd m n) 0 w) := by
 have hR0 : Row (w.alloc (.cells #[.slice none 0 0,.slice none 0 0] 36)) w.heap.size 36 [.slice none 0 0,.slice none 0 0] := Row.newOf _ rfl
 have m0 : ¬ (m : Int) < 0 := by omega
 have n0 : ¬ (n : Int) < 0 := by omega
 have hml := limbs_63 hm
 have hnl := limbs_63 hn
 go_enter Try.func13,Try.ntmps13
 go_wp2_with fail
 refine (ref_of_int _ _ (by omega) (by omega)).mono ?_
 rintro e w1 ⟨a,rfl,ha,hb1⟩
 obtain ⟨aa,la,ca,rfl⟩ := Rd.shape ha
 have rR := Row.keep hR0 hb1
 have hbw := Bel.one _ hb1
 clear hR0 hb1
 go_wp2_with fail
 refine (ref_of_int _ _ (by omega) (by omega)).mono ?_
 rintro e w2 ⟨b,rfl,hb,hb2⟩
 obtain ⟨ab,lb,cb,rfl⟩ := Rd.shape hb
 replace rR := Row.keep rR hb2
 replace hbw := Bel.to hbw hb2
 replace ha := Rd.below ha hb2
 clear hb2
 go_wp2_with fail
 refine (rmake_ok _ _ m n _ ha hb hml hnl h0).mono ?_
 rintro e w3 ⟨q,p,rfl,hq,hp,hb3⟩
 obtain ⟨qu,ql,qc,rfl⟩ := Rd.shape hq
 obtain ⟨pu,pl,pc,rfl⟩ := Rd.shape hp
 replace rR := Row.keep rR hb3
 replace hbw := Bel.to hbw hb3
 clear hb3 ha hb
 have cR0 := rR.cell? 0
 have cR1 := rR.cell? 1
 simp only [List.getElem?_cons_zero,List.getElem?_cons_succ] at cR0 cR1
 have fR0 := rR.frozen 0
 have fR1 := rR.frozen 1
 have hq2 := (Rd.setNe hq cR0 (fun _ h => by cases h) (.slice qu ql qc))
 have c1' := (rR.set 0 (.slice qu ql qc)).cell? 1
 simp only [zsB,List.getElem?_cons_zero,List.getElem?_cons_succ] at c1'
 have hq3 := hq2.setNe c1' (fun _ h => by cases h) (.slice pu pl pc)
 have hp3 := (Rd.setNe hp cR0 (fun _ h => by cases h) (.slice qu ql qc)).setNe c1' (fun _ h => by cases h) (.slice pu pl pc)
 have bel := Bel.st (Bel.st hbw (p := ⟨w.heap.size,0,none⟩) (by simp only [];omega) (.slice qu ql qc)) (p := ⟨w.heap.size,1,none⟩) (by simp only [];omega) (.slice pu pl pc)
 have rF := (rR.set 0 (.slice qu ql qc)).set 1 (.slice pu pl pc)
 simp only [zsB,zsC] at rF
 have cF0 := rF.cell? 0
 have cF1 := rF.cell? 1
 simp only [List.getElem?_cons_zero,List.getElem?_cons_succ] at cF0 cF1
 clear hq hp hq2 c1' hbw
 go_wp2
 exact bodyPost_ret (v := .tuple #[.agg #[.slice qu ql qc,.slice pu pl pc],.int .i64 0]) (by simp [results,Try.results13,go_sem,cF0,cF1]) rfl ⟨_,_,rfl,hq3,hp3,bel⟩
set_option maxHeartbeats 1000000 in
set_option maxRecDepth 100000 in
theorem rfsame_lists (va vb : Value) (la lb : List Nat) (w : World) (ha : Rd U32 w va la) (hb : Rd U32 w vb lb) :
  Calls Try.prog 41 #[va,vb] w (BoolB (decide (la = lb)) w) := by
 obtain ⟨aa,ca,rfl,hla,hca,hra⟩ := Rd.form ha
 obtain ⟨ab,cb,rfl,hlb,hcb,hrb⟩ := Rd.form hb
 have hca' : ca ≤ 9223372036854775807 := by unfold maxLen at hca;omega
 have hcb' : cb ≤ 9223372036854775807 := by unfold maxLen at hcb;omega
 by_cases hl : la.length = lb.length
 ·have l3 : ((la.length : Int) != lb.length) = false := by simp;omega
  have l1 : la.length ≤ lb.length := by omega
  have l2 : lb.length ≤ la.length := by omega
  replace hl := hide hl
  go_enter Try.func41,Try.ntmps41
  go_wp2
  go_loopw [5] (fun i wr => ∃ (k d : Nat),k ≤ la.length ∧ i = .int .i64 k ∧ wr = w.drewN d ∧ Hid (la.take k = lb.take k)) (fun i _ => la.length - (intOf i).toNat)
  case atStart => exact ⟨0,0,Nat.zero_le _,rfl,rfl,rfl⟩
  case round =>
   obtain ⟨k,d,hk,rfl,rfl,htk⟩ := hrel
   by_cases hkl : k < la.length
   ·have hk2 : k < lb.length := by omega
    obtain ⟨ba,offa,rfl,hba,hcella⟩ := hra.at_ hkl
    obtain ⟨bb,offb,rfl,hbb,hcellb⟩ := hrb.at_ hk2
    have c1 := hcella _ hkl
    have c2 := hcellb _ hk2
    clear hcella hcellb
    have i1 : (0 : Int) ≤ (k : Int) := by omega
    have i2 : (k : Int) < (la.length : Int) := by omega
    have i3 : (k : Int) < (lb.length : Int) := by omega
    by_cases he : la[k] = lb[k]
    ·have hb1 : (((la[k] : Nat) : Int) != ((lb[k] : Nat) : Int)) = false := by rw [he];simp
     replace he := hide he
     go_wp2
     go_quiet (fail)
     go_wp2
     go_roundw
     case rel =>
      refine ⟨k + 1,_,by omega,by go_num,rfl,?_⟩
      show _ = _
      rw [take_snoc la k hkl,take_snoc lb k hk2,he.out,htk.out]
     case measure => simp [intOf];omega
    ·have hb1 : (((la[k] : Nat) : Int) != ((lb[k] : Nat) : Int)) = true := by simp;omega
     have hne : decide (la = lb) = false := by
      apply decide_eq_false
      intro h
      subst h
      exact he rfl
     replace hne := hide hne
     go_wp2
     go_quiet (fail)
     go_wp2
     go_ret
     exact ⟨by rw [hne.out];rfl,Bel.drN (Bel.drN (Below.refl _ _) _) _⟩
   ·have hkk : k = la.length := by omega
    have heq : decide (la = lb) = true := by
     apply decide_eq_true
     have := htk.out
     rw [List.take_of_length_le (by omega),List.take_of_length_le (by omega)] at this
     exact this
    replace heq := hide heq
    replace hkk := hide hkk
    go_wp2
    go_ret
    exact ⟨by rw [heq.out];rfl,Bel.drN (Below.refl _ _) _⟩
 ·have l3 : ((la.length : Int) != lb.length) = true := by simp;omega
  have hne : decide (la = lb) = false := by
   apply decide_eq_false
   intro h
   exact hl (by rw [h])
  rw [hne]
  clear hl hne
  go_enter Try.func41,Try.ntmps41
  go_wp2
  go_ret
  exact ⟨rfl,Below.refl _ _⟩
theorem rfsame_nums (va vb : Value) (m n : Nat) (w : World) (ha : NV w va m) (hb : NV w vb n) :
  Calls Try.prog 41 #[va,vb] w (BoolB (decide (m = n)) w) := by
 have h : decide (m = n) = decide (limbs m = limbs n) := by
  rw [decide_eq_decide]
  exact ⟨fun h => by rw [h],limbs_inj⟩
 rw [h]
 exact rfsame_lists va vb _ _ w ha hb
set_option maxHeartbeats 4000000 in
set_option maxRecDepth 100000 in
theorem rfsame_any (va vb vc vd : Value) (m n p q : Nat) (w : World) (ha : NV w va m) (hb : NV w vb n) (hc : NV w vc p) (hd : NV w vd q) :
  Calls Try.prog 20 #[.agg #[va,vb],.agg #[vc,vd]] w (BoolB (decide (m = p ∧ n = q)) w) := by
 obtain ⟨aa,la,ca,rfl⟩ := Rd.shape ha
 obtain ⟨ab,lb,cb,rfl⟩ := Rd.shape hb
 obtain ⟨ac,lc,cc,rfl⟩ := Rd.shape hc
 obtain ⟨ad,ld,cd,rfl⟩ := Rd.shape hd
 have rA0 : ∀ o,Row ((w.alloc (.cells #[.slice aa la ca,.slice ab lb cb] 36)).alloc o) w.heap.size 36 [.slice aa la ca,.slice ab lb cb] := fun o => (Row.newOf _ rfl).alloc o
 have rB0 : ∀ o,Row ((w.alloc o).alloc (.cells #[.slice ac lc cc,.slice ad ld cd] 36)) (w.heap.size + 1) 36 [.slice ac lc cc,.slice ad ld cd] := fun o => by
  have h := Row.new (w.alloc o) 36 [.slice ac lc cc,.slice ad ld cd]
  simpa using h
 go_enter Try.func20,Try.ntmps20
 by_cases h1 : m = p
 ·have cS := fun X (hX : Below w.heap.size w X) => rfsame_nums _ _ m p X (Rd.below ha hX) (Rd.below hc hX)
  rw [decide_eq_true h1] at cS
  have e1 : decide (m = p ∧ n = q) = decide (n = q) := by rw [decide_eq_decide];exact ⟨fun h => h.2,fun h => ⟨h1,h⟩⟩
  rw [e1]
  clear e1
  replace cS := hide cS
  go_wp2_with fail
  refine (cS.out _ (Bel.al (Bel.al (Below.refl _ _) _) _)).mono ?_
  rintro e w1 ⟨rfl,hb1⟩
  have rA := Row.keep (rA0 _) hb1
  have rB := Row.keep (rB0 _) hb1
  have cA := rA.cell? 1
  have cB := rB.cell? 1
  simp only [List.getElem?_cons_zero,List.getElem?_cons_succ] at cA cB
  have hbw := Bel.two _ _ hb1
  clear hb1 rA rB rA0 rB0 cS
  go_wp2_with fail
  refine (rfsame_nums _ _ n q _ (Rd.below hb hbw) (Rd.below hd hbw)).mono ?_
  rintro e w2 ⟨rfl,hb2⟩
  go_wp2
  go_ret
  exact ⟨rfl,Bel.to hbw hb2⟩
 ·have cS := fun X (hX : Below w.heap.size w X) => rfsame_nums _ _ m p X (Rd.below ha hX) (Rd.below hc hX)
  rw [decide_eq_false h1] at cS
  have e1 : decide (m = p ∧ n = q) = false := decide_eq_false fun h => h1 h.1
  rw [e1]
  clear e1
  replace cS := hide cS
  go_wp2_with fail
  refine (cS.out _ (Bel.al (Bel.al (Below.refl _ _) _) _)).mono ?_
  rintro e w1 ⟨rfl,hb1⟩
  have hbw := Bel.two _ _ hb1
  go_wp2
  go_ret
  exact ⟨rfl,hbw⟩
def chPF (p : Int × Int) : Nat := if p.1 < 0 then 0 else if p.2 < 0 then 0 else chooseF p.1.toNat p.2.toNat
theorem chP_eq : chP = chPF := by
 funext p
 unfold chP chPF chZ chooseI
 simp only [choose_fast]
theorem lot_game : gameE lottoG = 0 := by decide
theorem lot_outN : outN lottoG = 13983816 := by
 show prodL [chP (49,6),chP (43,0),chP (0,0)] = _
 rw [chP_eq]
 kernel_rfl
theorem lot_outV : outV lottoG = (13983816,0) := by unfold outV;rw [if_pos lot_game,lot_outN]
def winL (t : Int) : Nat := sumTo (fun m => if wonC lottoG m 0 0 = t then prodL ((wayP lottoG m 0 0).map chPF) else 0) 7
theorem lot_winL (t : Int) : winC lottoG t = winL t := by
 have h : ∀ f : Nat → Nat,sumTo f 1 = f 0 := fun f => by simp [sumTo]
 unfold winC winF winG winH wayN winL
 rw [chP_eq]
 show sumTo (fun m => sumTo (fun x => sumTo _ 1) 1) 7 = _
 simp only [h]
 rfl
theorem lot_win0 : winC lottoG 0 = 1 := by rw [lot_winL];kernel_rfl
theorem lot_win1 : winC lottoG 1 = 258 := by rw [lot_winL];kernel_rfl
theorem lot_win2 : winC lottoG 2 = 13545 := by rw [lot_winL];kernel_rfl
theorem lot_win3 : winC lottoG 3 = 246820 := by rw [lot_winL];kernel_rfl
theorem lot_sum : sumTo (fun i => winC lottoG (i : Int)) 4 = 260624 := by
 simp only [sumTo]
 show 0 + winC lottoG 0 + winC lottoG 1 + winC lottoG 2 + winC lottoG 3 = 260624
 rw [lot_win0,lot_win1,lot_win2,lot_win3]
theorem lot_pay : sumTo (payT lottoG (winC lottoG)) 4 = 260624000 := by
 simp only [sumTo]
 show 0 + winC lottoG 0 * 1000 + winC lottoG 1 * 1000 + winC lottoG 2 * 1000 + winC lottoG 3 * 1000 = 260624000
 rw [lot_win0,lot_win1,lot_win2,lot_win3]
theorem lot_hW (av tv : Value) (ms : List AddonM) : gameE lottoG = 0 → ∀ (t : Int) (X : World),0 ≤ t → t < lottoG.tiers.length → GameR X av tv ms lottoG → Calls Try.prog 30 #[gameVal lottoG av tv,.int .i64 t] X (NatC (winC lottoG t) 0 X) :=
 fun he t X _ _ h => owin_choose lottoG av tv ms t X h he (by decide)
theorem lot_tiers : lottoG.tiers.length = 4 := rfl
theorem lo_out (av tv : Value) (ms : List AddonM) (w : World) (h : GameR w av tv ms lottoG) : Calls Try.prog 9 #[gameVal lottoG av tv] w (NatC 13983816 0 w) := by
 have h1 := oOut_any lottoG av tv ms w h
 rw [lot_outV] at h1
 exact h1
theorem lo_win (av tv : Value) (ms : List AddonM) (w : World) (h : GameR w av tv ms lottoG) : Calls Try.prog 14 #[gameVal lottoG av tv,.int .i64 3] w (NatC 246820 0 w) :=
 oWin_any lottoG av tv ms (winC lottoG) 3 w h 246820 0 (by unfold WinO;rw [if_neg (by rw [lot_game];simp),if_neg (by rw [lot_tiers];decide),lot_win3]) (lot_hW av tv ms)
theorem lo_chance (av tv : Value) (ms : List AddonM) (w : World) (h : GameR w av tv ms lottoG) : Calls Try.prog 15 #[gameVal lottoG av tv,.int .i64 0] w (FracC 1 13983816 0 w) := by
 have h1 := oChance_any lottoG av tv ms (winC lottoG) 0 w h 1 0 (by unfold WinO;rw [if_neg (by rw [lot_game];simp),if_neg (by rw [lot_tiers];decide),lot_win0]) (fun _ => by have := limbs_two (n := 1) (by omega);omega) (lot_hW av tv ms)
 rw [lot_outN] at h1
 exact h1
theorem lo_any (av tv : Value) (ms : List AddonM) (w : World) (h : GameR w av tv ms lottoG) : Calls Try.prog 12 #[gameVal lottoG av tv] w (FracC 4654 249711 0 w) := by
 have h1 := oAny_any lottoG av tv ms (winC lottoG) w h (fun _ => by rw [lot_tiers,lot_sum];have := limbs_two (n := 260624) (by omega);omega) (lot_hW av tv ms)
 rw [lot_outN,lot_game,lot_tiers,lot_sum] at h1
 exact h1
theorem lo_pay (av tv : Value) (ms : List AddonM) (w : World) (h : GameR w av tv ms lottoG) : Calls Try.prog 22 #[gameVal lottoG av tv] w (FracC 23270 249711 0 w) := by
 have h1 := oPay_any lottoG av tv ms (winC lottoG) w h (fun _ => by rw [lot_tiers,lot_pay];have := limbs_two (n := 260624000) (by omega);omega) (fun he i hi => winC_limbs (choF he (by decide)) i) (fun _ t ht => by
  have : ∀ t ∈ lottoG.tiers,t.value ≤ 9223372036854775807 := by decide
  exact this t ht) (lot_hW av tv ms)
 rw [lot_outN,lot_game,lot_tiers,lot_pay] at h1
 exact h1
theorem lo_of (m n : Nat) (w : World) (hm : m ≤ 9223372036854775807) (hn : n ≤ 9223372036854775807) (h0 : 0 < n) (hg : Nat.gcd m n = 1) : Calls Try.prog 13 #[.int .i64 (m : Int),.int .i64 (n : Int)] w (FracC m n 0 w) := by
 have h1 := rfof_ok m n w hm hn h0
 rw [hg,Nat.div_one,Nat.div_one] at h1
 exact h1
def Rng (X : World) (l : List (Nat × List Value)) : Prop := ∀ p ∈ l,X.rangeAt p.1 0 p.2
theorem Rng.nil (X : World) : Rng X [] := fun _ h => by cases h
theorem Rng.cons {X : World} {b : Nat} {t : TypeId} {cs : List Value} {l : List (Nat × List Value)} (h : Row X b t cs) (hl : Rng X l) : Rng X ((b,cs) :: l) := by
 intro p hp
 rcases List.mem_cons.1 hp with rfl | hp
 ·intro j v hv
  rw [Nat.zero_add]
  exact (Row.cell? h j).trans hv
 ·exact hl p hp
theorem Rng.keep {X Y : World} {l : List (Nat × List Value)} (h : Rng X l) (hb : Below X.heap.size X Y) : Rng Y l := fun p hp j v hv => Bel.cellOf hb (h p hp j v hv)
theorem Rng.drew {X : World} {l : List (Nat × List Value)} (h : Rng X l) : Rng X.drew l := h
theorem Rng.at2 {X : World} {p q : Nat × List Value} {b : Nat} {cs : List Value} {l : List (Nat × List Value)} (h : Rng X (p :: q :: (b,cs) :: l)) : X.rangeAt b 0 cs := h (b,cs) (.tail _ (.tail _ (.head _)))
theorem Rng.far {X : World} {l : List (Nat × List Value)} (h : Rng X l) {q : Addr} (hq : ∀ p ∈ l,p.1 ≠ q.block) (u : Value) : Rng (X.setCell q u) l := by
 intro p hp j v hv
 exact cell_far (h p hp j v hv) (hq p hp) u
theorem GameAt.drew {X : World} {b : Nat} {g : GameD} {av tv : Value} (h : GameAt X b g av tv) : GameAt X.drew b g av tv := h
theorem Below.drewSelf (X : World) : Below X.heap.size X X.drew := Below.drew (Below.refl _ _)
theorem lo_of1 (w : World) : Calls Try.prog 13 #[.int .i64 1,.int .i64 13983816] w (FracC 1 13983816 0 w) := lo_of 1 13983816 w (by omega) (by omega) (by omega) (by decide)
theorem lo_of2 (w : World) : Calls Try.prog 13 #[.int .i64 4654,.int .i64 249711] w (FracC 4654 249711 0 w) := lo_of 4654 249711 w (by omega) (by omega) (by omega) (by decide)
theorem lo_of3 (w : World) : Calls Try.prog 13 #[.int .i64 23270,.int .i64 249711] w (FracC 23270 249711 0 w) := lo_of 23270 249711 w (by omega) (by omega) (by omega) (by decide)
theorem ref_n1 (w : World) : Calls Try.prog 23 #[.int .u64 13983816] w (SomeNat 13983816 w) := ref_of 13983816 w (by omega)
theorem ref_n2 (w : World) : Calls Try.prog 23 #[.int .u64 246820] w (SomeNat 246820 w) := ref_of 246820 w (by omega)
set_option maxHeartbeats 16000000 in
set_option maxRecDepth 100000 in
theorem awake35_any (w : World) : Calls Try.prog 8 #[] w (BoolB true w) := by
 go_enter Try.func8,Try.ntmps8
 have bel := Below.refl w.heap.size w
 go_wp2_with fail
 refine (lotto35_any _).mono ?_
 rintro e l0 ⟨av,tv,ms,rfl,hG,hb⟩
 replace bel := Bel.to bel hb
 clear hb
 go_wp2_with fail
 refine (lo_out av tv ms l0 hG).mono ?_
 rintro e x0 ⟨u,rfl,h0,hb⟩
 obtain ⟨a0,m0,c0,rfl⟩ := Rd.shape h0
 replace bel := Bel.to bel hb
 clear hb hG
 go_upto_region 2 with (fail)
 obtain ⟨y0,hy0⟩ : ∃ X,X = x0.alloc (.cells #[.slice a0 m0 c0] 30) := ⟨_,rfl⟩
 have hb : Below x0.heap.size x0 y0 := by rw [hy0];exact Bel.al (Below.refl _ _) _
 have r0 : Row y0 x0.heap.size 30 [.slice a0 m0 c0] := by rw [hy0];exact Row.newOf _ rfl
 rw [← hy0]
 clear hy0
 replace bel := Bel.to bel hb
 replace h0 := Rd.below h0 hb
 clear hb
 obtain ⟨b0,hq0⟩ : ∃ b,b = x0.heap.size := ⟨_,rfl⟩
 rw [← hq0] at r0 ⊢
 clear hq0
 go_wp2_with fail
 refine (lotto35_any _).mono ?_
 rintro e l1 ⟨av,tv,ms,rfl,hG,hb⟩
 replace bel := Bel.to bel hb
 replace h0 := Rd.below h0 hb
 replace r0 := Row.keep r0 hb
 clear hb
 go_wp2_with fail
 refine (lo_win av tv ms l1 hG).mono ?_
 rintro e x1 ⟨u,rfl,h1,hb⟩
 obtain ⟨a1,m1,c1,rfl⟩ := Rd.shape h1
 replace bel := Bel.to bel hb
 replace h0 := Rd.below h0 hb
 replace r0 := Row.keep r0 hb
 clear hb hG
 go_upto_region 3 with (fail)
 obtain ⟨y1,hy1⟩ : ∃ X,X = x1.alloc (.cells #[.slice a1 m1 c1] 30) := ⟨_,rfl⟩
 have hb : Below x1.heap.size x1 y1 := by rw [hy1];exact Bel.al (Below.refl _ _) _
 have r1 : Row y1 x1.heap.size 30 [.slice a1 m1 c1] := by rw [hy1];exact Row.newOf _ rfl
 rw [← hy1]
 clear hy1
 replace bel := Bel.to bel hb
 replace h0 := Rd.below h0 hb
 replace r0 := Row.keep r0 hb
 replace h1 := Rd.below h1 hb
 clear hb
 obtain ⟨b1,hq1⟩ : ∃ b,b = x1.heap.size := ⟨_,rfl⟩
 rw [← hq1] at r1 ⊢
 clear hq1
 go_wp2_with fail
 refine (lotto35_any _).mono ?_
 rintro e l2 ⟨av,tv,ms,rfl,hG,hb⟩
 replace bel := Bel.to bel hb
 replace h0 := Rd.below h0 hb
 replace r0 := Row.keep r0 hb
 replace h1 := Rd.below h1 hb
 replace r1 := Row.keep r1 hb
 clear hb
 go_wp2_with fail
 refine (lo_chance av tv ms l2 hG).mono ?_
 rintro e x2 ⟨u,v,rfl,h2,g2,hb⟩
 obtain ⟨a2,m2,c2,rfl⟩ := Rd.shape h2
 obtain ⟨d2,p2,e2,rfl⟩ := Rd.shape g2
 replace bel := Bel.to bel hb
 replace h0 := Rd.below h0 hb
 replace r0 := Row.keep r0 hb
 replace h1 := Rd.below h1 hb
 replace r1 := Row.keep r1 hb
 clear hb hG
 go_upto_region 4 with (fail)
 obtain ⟨y2,hy2⟩ : ∃ X,X = x2.alloc (.cells #[.slice a2 m2 c2,.slice d2 p2 e2] 36) := ⟨_,rfl⟩
 have hb : Below x2.heap.size x2 y2 := by rw [hy2];exact Bel.al (Below.refl _ _) _
 have r2 : Row y2 x2.heap.size 36 [.slice a2 m2 c2,.slice d2 p2 e2] := by rw [hy2];exact Row.newOf _ rfl
 rw [← hy2]
 clear hy2
 replace bel := Bel.to bel hb
 replace h0 := Rd.below h0 hb
 replace r0 := Row.keep r0 hb
 replace h1 := Rd.below h1 hb
 replace r1 := Row.keep r1 hb
 replace h2 := Rd.below h2 hb
 replace g2 := Rd.below g2 hb
 clear hb
 obtain ⟨b2,hq2⟩ : ∃ b,b = x2.heap.size := ⟨_,rfl⟩
 rw [← hq2] at r2 ⊢
 clear hq2
 go_wp2_with fail
 refine (lotto35_any _).mono ?_
 rintro e l3 ⟨av,tv,ms,rfl,hG,hb⟩
 replace bel := Bel.to bel hb
 replace h0 := Rd.below h0 hb
 replace r0 := Row.keep r0 hb
 replace h1 := Rd.below h1 hb
 replace r1 := Row.keep r1 hb
 replace h2 := Rd.below h2 hb
 replace g2 := Rd.below g2 hb
 replace r2 := Row.keep r2 hb
 clear hb
 go_wp2_with fail
 refine (lo_any av tv ms l3 hG).mono ?_
 rintro e x3 ⟨u,v,rfl,h3,g3,hb⟩
 obtain ⟨a3,m3,c3,rfl⟩ := Rd.shape h3
 obtain ⟨d3,p3,e3,rfl⟩ := Rd.shape g3
 replace bel := Bel.to bel hb
 replace h0 := Rd.below h0 hb
 replace r0 := Row.keep r0 hb
 replace h1 := Rd.below h1 hb
 replace r1 := Row.keep r1 hb
 replace h2 := Rd.below h2 hb
 replace g2 := Rd.below g2 hb
 replace r2 := Row.keep r2 hb
 clear hb hG
 go_upto_region 5 with (fail)
 obtain ⟨y3,hy3⟩ : ∃ X,X = x3.alloc (.cells #[.slice a3 m3 c3,.slice d3 p3 e3] 36) := ⟨_,rfl⟩
 have hb : Below x3.heap.size x3 y3 := by rw [hy3];exact Bel.al (Below.refl _ _) _
 have r3 : Row y3 x3.heap.size 36 [.slice a3 m3 c3,.slice d3 p3 e3] := by rw [hy3];exact Row.newOf _ rfl
 rw [← hy3]
 clear hy3
 replace bel := Bel.to bel hb
 replace h0 := Rd.below h0 hb
 replace r0 := Row.keep r0 hb
 replace h1 := Rd.below h1 hb
 replace r1 := Row.keep r1 hb
 replace h2 := Rd.below h2 hb
 replace g2 := Rd.below g2 hb
 replace r2 := Row.keep r2 hb
 replace h3 := Rd.below h3 hb
 replace g3 := Rd.below g3 hb
 clear hb
 obtain ⟨b3,hq3⟩ : ∃ b,b = x3.heap.size := ⟨_,rfl⟩
 rw [← hq3] at r3 ⊢
 clear hq3
 go_wp2_with fail
 refine (lotto35_any _).mono ?_
 rintro e l4 ⟨av,tv,ms,rfl,hG,hb⟩
 replace bel := Bel.to bel hb
 replace h0 := Rd.below h0 hb
 replace r0 := Row.keep r0 hb
 replace h1 := Rd.below h1 hb
 replace r1 := Row.keep r1 hb
 replace h2 := Rd.below h2 hb
 replace g2 := Rd.below g2 hb
 replace r2 := Row.keep r2 hb
 replace h3 := Rd.below h3 hb
 replace g3 := Rd.below g3 hb
 replace r3 := Row.keep r3 hb
 clear hb
 go_wp2_with fail
 refine (lo_pay av tv ms l4 hG).mono ?_
 rintro e x4 ⟨u,v,rfl,h4,g4,hb⟩
 obtain ⟨a4,m4,c4,rfl⟩ := Rd.shape h4
 obtain ⟨d4,p4,e4,rfl⟩ := Rd.shape g4
 replace bel := Bel.to bel hb
 replace h0 := Rd.below h0 hb
 replace r0 := Row.keep r0 hb
 replace h1 := Rd.below h1 hb
 replace r1 := Row.keep r1 hb
 replace h2 := Rd.below h2 hb
 replace g2 := Rd.below g2 hb
 replace r2 := Row.keep r2 hb
 replace h3 := Rd.below h3 hb
 replace g3 := Rd.below g3 hb
 replace r3 := Row.keep r3 hb
 clear hb hG
 go_upto_region 6 with (fail)
 obtain ⟨y4,hy4⟩ : ∃ X,X = x4.alloc (.cells #[.slice a4 m4 c4,.slice d4 p4 e4] 36) := ⟨_,rfl⟩
 have hb : Below x4.heap.size x4 y4 := by rw [hy4];exact Bel.al (Below.refl _ _) _
 have r4 : Row y4 x4.heap.size 36 [.slice a4 m4 c4,.slice d4 p4 e4] := by rw [hy4];exact Row.newOf _ rfl
 rw [← hy4]
 clear hy4
 replace bel := Bel.to bel hb
 replace h0 := Rd.below h0 hb
 replace r0 := Row.keep r0 hb
 replace h1 := Rd.below h1 hb
 replace r1 := Row.keep r1 hb
 replace h2 := Rd.below h2 hb
 replace g2 := Rd.below g2 hb
 replace r2 := Row.keep r2 hb
 replace h3 := Rd.below h3 hb
 replace g3 := Rd.below g3 hb
 replace r3 := Row.keep r3 hb
 replace h4 := Rd.below h4 hb
 replace g4 := Rd.below g4 hb
 clear hb
 obtain ⟨b4,hq4⟩ : ∃ b,b = x4.heap.size := ⟨_,rfl⟩
 rw [← hq4] at r4 ⊢
 clear hq4
 go_wp2_with fail
 refine (lo_of1 _).mono ?_
 rintro e x5 ⟨u,v,rfl,h5,g5,hb⟩
 obtain ⟨a5,m5,c5,rfl⟩ := Rd.shape h5
 obtain ⟨d5,p5,e5,rfl⟩ := Rd.shape g5
 replace bel := Bel.to bel hb
 replace h0 := Rd.below h0 hb
 replace r0 := Row.keep r0 hb
 replace h1 := Rd.below h1 hb
 replace r1 := Row.keep r1 hb
 replace h2 := Rd.below h2 hb
 replace g2 := Rd.below g2 hb
 replace r2 := Row.keep r2 hb
 replace h3 := Rd.below h3 hb
 replace g3 := Rd.below g3 hb
 replace r3 := Row.keep r3 hb
 replace h4 := Rd.below h4 hb
 replace g4 := Rd.below g4 hb
 replace r4 := Row.keep r4 hb
 clear hb
 go_upto_region 7 with (fail)
 obtain ⟨y5,hy5⟩ : ∃ X,X = x5.alloc (.cells #[.slice a5 m5 c5,.slice d5 p5 e5] 36) := ⟨_,rfl⟩
 have hb : Below x5.heap.size x5 y5 := by rw [hy5];exact Bel.al (Below.refl _ _) _
 have r5 : Row y5 x5.heap.size 36 [.slice a5 m5 c5,.slice d5 p5 e5] := by rw [hy5];exact Row.newOf _ rfl
 rw [← hy5]
 clear hy5
 replace bel := Bel.to bel hb
 replace h0 := Rd.below h0 hb
 replace r0 := Row.keep r0 hb
 replace h1 := Rd.below h1 hb
 replace r1 := Row.keep r1 hb
 replace h2 := Rd.below h2 hb
 replace g2 := Rd.below g2 hb
 replace r2 := Row.keep r2 hb
 replace h3 := Rd.below h3 hb
 replace g3 := Rd.below g3 hb
 replace r3 := Row.keep r3 hb
 replace h4 := Rd.below h4 hb
 replace g4 := Rd.below g4 hb
 replace r4 := Row.keep r4 hb
 replace h5 := Rd.below h5 hb
 replace g5 := Rd.below g5 hb
 clear hb
 obtain ⟨b5,hq5⟩ : ∃ b,b = x5.heap.size := ⟨_,rfl⟩
 rw [← hq5] at r5 ⊢
 clear hq5
 go_wp2_with fail
 refine (lo_of2 _).mono ?_
 rintro e x6 ⟨u,v,rfl,h6,g6,hb⟩
 obtain ⟨a6,m6,c6,rfl⟩ := Rd.shape h6
 obtain ⟨d6,p6,e6,rfl⟩ := Rd.shape g6
 replace bel := Bel.to bel hb
 replace h0 := Rd.below h0 hb
 replace r0 := Row.keep r0 hb
 replace h1 := Rd.below h1 hb
 replace r1 := Row.keep r1 hb
 replace h2 := Rd.below h2 hb
 replace g2 := Rd.below g2 hb
 replace r2 := Row.keep r2 hb
 replace h3 := Rd.below h3 hb
 replace g3 := Rd.below g3 hb
 replace r3 := Row.keep r3 hb
 replace h4 := Rd.below h4 hb
 replace g4 := Rd.below g4 hb
 replace r4 := Row.keep r4 hb
 replace h5 := Rd.below h5 hb
 replace g5 := Rd.below g5 hb
 replace r5 := Row.keep r5 hb
 clear hb
 go_upto_region 8 with (fail)
 obtain ⟨y6,hy6⟩ : ∃ X,X = x6.alloc (.cells #[.slice a6 m6 c6,.slice d6 p6 e6] 36) := ⟨_,rfl⟩
 have hb : Below x6.heap.size x6 y6 := by rw [hy6];exact Bel.al (Below.refl _ _) _
 have r6 : Row y6 x6.heap.size 36 [.slice a6 m6 c6,.slice d6 p6 e6] := by rw [hy6];exact Row.newOf _ rfl
 rw [← hy6]
 clear hy6
 replace bel := Bel.to bel hb
 replace h0 := Rd.below h0 hb
 replace r0 := Row.keep r0 hb
 replace h1 := Rd.below h1 hb
 replace r1 := Row.keep r1 hb
 replace h2 := Rd.below h2 hb
 replace g2 := Rd.below g2 hb
 replace r2 := Row.keep r2 hb
 replace h3 := Rd.below h3 hb
 replace g3 := Rd.below g3 hb
 replace r3 := Row.keep r3 hb
 replace h4 := Rd.below h4 hb
 replace g4 := Rd.below g4 hb
 replace r4 := Row.keep r4 hb
 replace h5 := Rd.below h5 hb
 replace g5 := Rd.below g5 hb
 replace r5 := Row.keep r5 hb
 replace h6 := Rd.below h6 hb
 replace g6 := Rd.below g6 hb
 clear hb
 obtain ⟨b6,hq6⟩ : ∃ b,b = x6.heap.size := ⟨_,rfl⟩
 rw [← hq6] at r6 ⊢
 clear hq6
 go_wp2_with fail
 refine (lo_of3 _).mono ?_
 rintro e x7 ⟨u,v,rfl,h7,g7,hb⟩
 obtain ⟨a7,m7,c7,rfl⟩ := Rd.shape h7
 obtain ⟨d7,p7,e7,rfl⟩ := Rd.shape g7
 replace bel := Bel.to bel hb
 replace h0 := Rd.below h0 hb
 replace r0 := Row.keep r0 hb
 replace h1 := Rd.below h1 hb
 replace r1 := Row.keep r1 hb
 replace h2 := Rd.below h2 hb
 replace g2 := Rd.below g2 hb
 replace r2 := Row.keep r2 hb
 replace h3 := Rd.below h3 hb
 replace g3 := Rd.below g3 hb
 replace r3 := Row.keep r3 hb
 replace h4 := Rd.below h4 hb
 replace g4 := Rd.below g4 hb
 replace r4 := Row.keep r4 hb
 replace h5 := Rd.below h5 hb
 replace g5 := Rd.below g5 hb
 replace r5 := Row.keep r5 hb
 replace h6 := Rd.below h6 hb
 replace g6 := Rd.below g6 hb
 replace r6 := Row.keep r6 hb
 clear hb
 go_upto_region 9 with (fail)
 obtain ⟨y7,hy7⟩ : ∃ X,X = x7.alloc (.cells #[.slice a7 m7 c7,.slice d7 p7 e7] 36) := ⟨_,rfl⟩
 have hb : Below x7.heap.size x7 y7 := by rw [hy7];exact Bel.al (Below.refl _ _) _
 have r7 : Row y7 x7.heap.size 36 [.slice a7 m7 c7,.slice d7 p7 e7] := by rw [hy7];exact Row.newOf _ rfl
 rw [← hy7]
 clear hy7
 replace bel := Bel.to bel hb
 replace h0 := Rd.below h0 hb
 replace r0 := Row.keep r0 hb
 replace h1 := Rd.below h1 hb
 replace r1 := Row.keep r1 hb
 replace h2 := Rd.below h2 hb
 replace g2 := Rd.below g2 hb
 replace r2 := Row.keep r2 hb
 replace h3 := Rd.below h3 hb
 replace g3 := Rd.below g3 hb
 replace r3 := Row.keep r3 hb
 replace h4 := Rd.below h4 hb
 replace g4 := Rd.below g4 hb
 replace r4 := Row.keep r4 hb
 replace h5 := Rd.below h5 hb
 replace g5 := Rd.below g5 hb
 replace r5 := Row.keep r5 hb
 replace h6 := Rd.below h6 hb
 replace g6 := Rd.below g6 hb
 replace r6 := Row.keep r6 hb
 replace h7 := Rd.below h7 hb
 replace g7 := Rd.below g7 hb
 clear hb
 obtain ⟨b7,hq7⟩ : ∃ b,b = x7.heap.size := ⟨_,rfl⟩
 rw [← hq7] at r7 ⊢
 clear hq7
 go_upto_region 11 with (fail)
 refine wp_region_held_drew (S := fun X => Rng X [(b0,[.slice a0 m0 c0]),(b1,[.slice a1 m1 c1]),(b2,[.slice a2 m2 c2,.slice d2 p2 e2]),(b3,[.slice a3 m3 c3,.slice d3 p3 e3]),(b4,[.slice a4 m4 c4,.slice d4 p4 e4]),(b5,[.slice a5 m5 c5,.slice d5 p5 e5]),(b6,[.slice a6 m6 c6,.slice d6 p6 e6]),(b7,[.slice a7 m7 c7,.slice d7 p7 e7])]) (by kernel_rfl) (Rng.cons r0 (Rng.cons r1 (Rng.cons r2 (Rng.cons r3 (Rng.cons r4 (Rng.cons r5 (Rng.cons r6 (Rng.cons r7 (Rng.nil _))))))))) (fun hHeld => ?_)
 replace bel := Bel.to bel (Below.drewSelf _)
 replace h0 := Rd.below h0 (Below.drewSelf _)
 replace h1 := Rd.below h1 (Below.drewSelf _)
 replace h2 := Rd.below h2 (Below.drewSelf _)
 replace g2 := Rd.below g2 (Below.drewSelf _)
 replace h3 := Rd.below h3 (Below.drewSelf _)
 replace g3 := Rd.below g3 (Below.drewSelf _)
 replace h4 := Rd.below h4 (Below.drewSelf _)
 replace g4 := Rd.below g4 (Below.drewSelf _)
 replace h5 := Rd.below h5 (Below.drewSelf _)
 replace g5 := Rd.below g5 (Below.drewSelf _)
 replace h6 := Rd.below h6 (Below.drewSelf _)
 replace g6 := Rd.below g6 (Below.drewSelf _)
 replace h7 := Rd.below h7 (Below.drewSelf _)
 replace g7 := Rd.below g7 (Below.drewSelf _)
 refine' wpAnyH_take (i := 0) (oi := _) (v := _) rfl (by kernel_rfl) (by kernel_rfl) (by kernel_rfl) (fun _ _ _ h => h) (yieldsIf_load_mid (by first | (go_simp;done) | rfl) 30 _ rfl _ _ rfl [.slice a0 m0 c0] _ (fun X h => h (b0,[.slice a0 m0 c0]) (.head _)) Try.underlying30 rfl (by kernel_rfl)) hHeld ?_
 try simp only [Act.put,zsA,zsB,zsC]
 refine wpAnyH_ready (rs := [1]) (by kernel_rfl) (by simp) ?_
 refine AllReadyH.cons (o := _) rfl (fun K hK => ?_) AllReadyH.nil
 go_simp
 refine (ref_n1 _).mono ?_
 rintro e q1 ⟨u,rfl,hu,hb⟩
 obtain ⟨ua,ul,uc,rfl⟩ := Rd.shape hu
 replace bel := Bel.to bel hb
 replace h0 := Rd.below h0 hb
 replace h1 := Rd.below h1 hb
 replace h2 := Rd.below h2 hb
 replace g2 := Rd.below g2 hb
 replace h3 := Rd.below h3 hb
 replace g3 := Rd.below g3 hb
 replace h4 := Rd.below h4 hb
 replace g4 := Rd.below g4 hb
 replace h5 := Rd.below h5 hb
 replace g5 := Rd.below g5 hb
 replace h6 := Rd.below h6 hb
 replace g6 := Rd.below g6 hb
 replace h7 := Rd.below h7 hb
 replace g7 := Rd.below g7 hb
 go_wp2_with fail
 refine hK.out _ _ (hHeld.keep hb) (fun hHeld => ?_)
 clear hK K
 try simp only [Act.put,zsA,zsB,zsC]
 clear hb
 have cS := hide (same_nats _ _ 13983816 13983816 _ h0 hu)
 rw [decide_eq_true (show (13983816 : Nat) = 13983816 from rfl)] at cS
 refine wpAnyH_ready (rs := [2]) (by kernel_rfl) (by simp) ?_
 refine AllReadyH.cons (o := _) rfl (fun K hK => ?_) AllReadyH.nil
 go_simp
 refine (cS.out).mono ?_
 rintro e q2 ⟨rfl,hb⟩
 replace bel := Bel.to bel hb
 replace h0 := Rd.below h0 hb
 replace h1 := Rd.below h1 hb
 replace h2 := Rd.below h2 hb
 replace g2 := Rd.below g2 hb
 replace h3 := Rd.below h3 hb
 replace g3 := Rd.below g3 hb
 replace h4 := Rd.below h4 hb
 replace g4 := Rd.below g4 hb
 replace h5 := Rd.below h5 hb
 replace g5 := Rd.below g5 hb
 replace h6 := Rd.below h6 hb
 replace g6 := Rd.below g6 hb
 replace h7 := Rd.below h7 hb
 replace g7 := Rd.below g7 hb
 go_wp2_with fail
 refine hK.out _ _ (hHeld.keep hb) (fun hHeld => ?_)
 clear hK K
 try simp only [Act.put,zsA,zsB,zsC]
 clear hb cS hu
 refine' wpAnyH_take (i := 3) (oi := _) (v := .bool true) rfl (by kernel_rfl) (by kernel_rfl) (by kernel_rfl) (fun _ _ _ h => h) (Or.inl ⟨by first | (go_simp;done) | rfl,fun X _ => by go_simp⟩) hHeld ?_
 try simp only [Act.put,zsA,zsB,zsC]
 refine' wpAnyH_take (i := 4) (oi := _) (v := _) rfl (by kernel_rfl) (by kernel_rfl) (by kernel_rfl) (fun _ _ _ h => h) (yieldsIf_load_mid (by first | (go_simp;done) | rfl) 30 _ rfl _ _ rfl [.slice a1 m1 c1] _ (fun X h => h (b1,[.slice a1 m1 c1]) (.tail _ (.head _))) Try.underlying30 rfl (by kernel_rfl)) hHeld ?_
 try simp only [Act.put,zsA,zsB,zsC]
 refine wpAnyH_ready (rs := [5]) (by kernel_rfl) (by simp) ?_
 refine AllReadyH.cons (o := _) rfl (fun K hK => ?_) AllReadyH.nil
 go_simp
 refine (ref_n2 _).mono ?_
 rintro e q5 ⟨u,rfl,hu,hb⟩
 obtain ⟨ua,ul,uc,rfl⟩ := Rd.shape hu
 replace bel := Bel.to bel hb
 replace h0 := Rd.below h0 hb
 replace h1 := Rd.below h1 hb
 replace h2 := Rd.below h2 hb
 replace g2 := Rd.below g2 hb
 replace h3 := Rd.below h3 hb
 replace g3 := Rd.below g3 hb
 replace h4 := Rd.below h4 hb
 replace g4 := Rd.below g4 hb
 replace h5 := Rd.below h5 hb
 replace g5 := Rd.below g5 hb
 replace h6 := Rd.below h6 hb
 replace g6 := Rd.below g6 hb
 replace h7 := Rd.below h7 hb
 replace g7 := Rd.below g7 hb
 go_wp2_with fail
 refine hK.out _ _ (hHeld.keep hb) (fun hHeld => ?_)
 clear hK K
 try simp only [Act.put,zsA,zsB,zsC]
 clear hb
 have cS := hide (same_nats _ _ 246820 246820 _ h1 hu)
 rw [decide_eq_true (show (246820 : Nat) = 246820 from rfl)] at cS
 refine wpAnyH_ready (rs := [6]) (by kernel_rfl) (by simp) ?_
 refine AllReadyH.cons (o := _) rfl (fun K hK => ?_) AllReadyH.nil
 go_simp
 refine (cS.out).mono ?_
 rintro e q6 ⟨rfl,hb⟩
 replace bel := Bel.to bel hb
 replace h0 := Rd.below h0 hb
 replace h1 := Rd.below h1 hb
 replace h2 := Rd.below h2 hb
 replace g2 := Rd.below g2 hb
 replace h3 := Rd.below h3 hb
 replace g3 := Rd.below g3 hb
 replace h4 := Rd.below h4 hb
 replace g4 := Rd.below g4 hb
 replace h5 := Rd.below h5 hb
 replace g5 := Rd.below g5 hb
 replace h6 := Rd.below h6 hb
 replace g6 := Rd.below g6 hb
 replace h7 := Rd.below h7 hb
 replace g7 := Rd.below g7 hb
 go_wp2_with fail
 refine hK.out _ _ (hHeld.keep hb) (fun hHeld => ?_)
 clear hK K
 try simp only [Act.put,zsA,zsB,zsC]
 clear hb cS hu
 refine' wpAnyH_take (i := 7) (oi := _) (v := .bool true) rfl (by kernel_rfl) (by kernel_rfl) (by kernel_rfl) (fun _ _ _ h => h) (Or.inl ⟨by first | (go_simp;done) | rfl,fun X _ => by go_simp⟩) hHeld ?_
 try simp only [Act.put,zsA,zsB,zsC]
 refine' wpAnyH_take (i := 8) (oi := _) (v := .bool true) rfl (by kernel_rfl) (by kernel_rfl) (by kernel_rfl) (fun _ _ _ h => h) (Or.inl ⟨by first | (go_simp;done) | rfl,fun X _ => by go_simp⟩) hHeld ?_
 try simp only [Act.put,zsA,zsB,zsC]
 refine' wpAnyH_take (i := 9) (oi := _) (v := _) rfl (by kernel_rfl) (by kernel_rfl) (by kernel_rfl) (fun _ _ _ h => h) (yieldsIf_load_mid (by first | (go_simp;done) | rfl) 36 _ rfl _ _ rfl [.slice a2 m2 c2,.slice d2 p2 e2] _ (fun X h => h (b2,[.slice a2 m2 c2,.slice d2 p2 e2]) (.tail _ (.tail _ (.head _)))) Try.underlying36 rfl (by kernel_rfl)) hHeld ?_
 try simp only [Act.put,zsA,zsB,zsC]
 refine' wpAnyH_take (i := 10) (oi := _) (v := _) rfl (by kernel_rfl) (by kernel_rfl) (by kernel_rfl) (fun _ _ _ h => h) (yieldsIf_load_mid (by first | (go_simp;done) | rfl) 36 _ rfl _ _ rfl [.slice a5 m5 c5,.slice d5 p5 e5] _ (fun X h => h (b5,[.slice a5 m5 c5,.slice d5 p5 e5]) (.tail _ (.tail _ (.tail _ (.tail _ (.tail _ (.head _))))))) Try.underlying36 rfl (by kernel_rfl)) hHeld ?_
 try simp only [Act.put,zsA,zsB,zsC]
 have cS := hide (rfsame_any _ _ _ _ 1 13983816 1 13983816 _ h2 g2 h5 g5)
 rw [decide_eq_true (show (1 : Nat) = 1 ∧ (13983816 : Nat) = 13983816 from ⟨rfl,rfl⟩)] at cS
 refine wpAnyH_ready (rs := [11]) (by kernel_rfl) (by simp) ?_
 refine AllReadyH.cons (o := _) rfl (fun K hK => ?_) AllReadyH.nil
 go_simp
 refine (cS.out).mono ?_
 rintro e q11 ⟨rfl,hb⟩
 replace bel := Bel.to bel hb
 replace h0 := Rd.below h0 hb
 replace h1 := Rd.below h1 hb
 replace h2 := Rd.below h2 hb
 replace g2 := Rd.below g2 hb
 replace h3 := Rd.below h3 hb
 replace g3 := Rd.below g3 hb
 replace h4 := Rd.below h4 hb
 replace g4 := Rd.below g4 hb
 replace h5 := Rd.below h5 hb
 replace g5 := Rd.below g5 hb
 replace h6 := Rd.below h6 hb
 replace g6 := Rd.below g6 hb
 replace h7 := Rd.below h7 hb
 replace g7 := Rd.below g7 hb
 go_wp2_with fail
 refine hK.out _ _ (hHeld.keep hb) (fun hHeld => ?_)
 clear hK K
 try simp only [Act.put,zsA,zsB,zsC]
 clear hb cS
 refine' wpAnyH_take (i := 12) (oi := _) (v := .bool true) rfl (by kernel_rfl) (by kernel_rfl) (by kernel_rfl) (fun _ _ _ h => h) (Or.inl ⟨by first | (go_simp;done) | rfl,fun X _ => by go_simp⟩) hHeld ?_
 try simp only [Act.put,zsA,zsB,zsC]
 refine' wpAnyH_take (i := 13) (oi := _) (v := .bool true) rfl (by kernel_rfl) (by kernel_rfl) (by kernel_rfl) (fun _ _ _ h => h) (Or.inl ⟨by first | (go_simp;done) | rfl,fun X _ => by go_simp⟩) hHeld ?_
 try simp only [Act.put,zsA,zsB,zsC]
 refine' wpAnyH_take (i := 14) (oi := _) (v := _) rfl (by kernel_rfl) (by kernel_rfl) (by kernel_rfl) (fun _ _ _ h => h) (yieldsIf_load_mid (by first | (go_simp;done) | rfl) 36 _ rfl _ _ rfl [.slice a3 m3 c3,.slice d3 p3 e3] _ (fun X h => h (b3,[.slice a3 m3 c3,.slice d3 p3 e3]) (.tail _ (.tail _ (.tail _ (.head _))))) Try.underlying36 rfl (by kernel_rfl)) hHeld ?_
 try simp only [Act.put,zsA,zsB,zsC]
 refine' wpAnyH_take (i := 15) (oi := _) (v := _) rfl (by kernel_rfl) (by kernel_rfl) (by kernel_rfl) (fun _ _ _ h => h) (yieldsIf_load_mid (by first | (go_simp;done) | rfl) 36 _ rfl _ _ rfl [.slice a6 m6 c6,.slice d6 p6 e6] _ (fun X h => h (b6,[.slice a6 m6 c6,.slice d6 p6 e6]) (.tail _ (.tail _ (.tail _ (.tail _ (.tail _ (.tail _ (.head _)))))))) Try.underlying36 rfl (by kernel_rfl)) hHeld ?_
 try simp only [Act.put,zsA,zsB,zsC]
 have cS := hide (rfsame_any _ _ _ _ 4654 249711 4654 249711 _ h3 g3 h6 g6)
 rw [decide_eq_true (show (4654 : Nat) = 4654 ∧ (249711 : Nat) = 249711 from ⟨rfl,rfl⟩)] at cS
 refine wpAnyH_ready (rs := [16]) (by kernel_rfl) (by simp) ?_
 refine AllReadyH.cons (o := _) rfl (fun K hK => ?_) AllReadyH.nil
 go_simp
 refine (cS.out).mono ?_
 rintro e q16 ⟨rfl,hb⟩
 replace bel := Bel.to bel hb
 replace h0 := Rd.below h0 hb
 replace h1 := Rd.below h1 hb
 replace h2 := Rd.below h2 hb
 replace g2 := Rd.below g2 hb
 replace h3 := Rd.below h3 hb
 replace g3 := Rd.below g3 hb
 replace h4 := Rd.below h4 hb
 replace g4 := Rd.below g4 hb
 replace h5 := Rd.below h5 hb
 replace g5 := Rd.below g5 hb
 replace h6 := Rd.below h6 hb
 replace g6 := Rd.below g6 hb
 replace h7 := Rd.below h7 hb
 replace g7 := Rd.below g7 hb
 go_wp2_with fail
 refine hK.out _ _ (hHeld.keep hb) (fun hHeld => ?_)
 clear hK K
 try simp only [Act.put,zsA,zsB,zsC]
 clear hb cS
 refine' wpAnyH_take (i := 17) (oi := _) (v := .bool true) rfl (by kernel_rfl) (by kernel_rfl) (by kernel_rfl) (fun _ _ _ h => h) (Or.inl ⟨by first | (go_simp;done) | rfl,fun X _ => by go_simp⟩) hHeld ?_
 try simp only [Act.put,zsA,zsB,zsC]
 refine' wpAnyH_take (i := 18) (oi := _) (v := .bool true) rfl (by kernel_rfl) (by kernel_rfl) (by kernel_rfl) (fun _ _ _ h => h) (Or.inl ⟨by first | (go_simp;done) | rfl,fun X _ => by go_simp⟩) hHeld ?_
 try simp only [Act.put,zsA,zsB,zsC]
 refine' wpAnyH_take (i := 19) (oi := _) (v := _) rfl (by kernel_rfl) (by kernel_rfl) (by kernel_rfl) (fun _ _ _ h => h) (yieldsIf_load_mid (by first | (go_simp;done) | rfl) 36 _ rfl _ _ rfl [.slice a4 m4 c4,.slice d4 p4 e4] _ (fun X h => h (b4,[.slice a4 m4 c4,.slice d4 p4 e4]) (.tail _ (.tail _ (.tail _ (.tail _ (.head _)))))) Try.underlying36 rfl (by kernel_rfl)) hHeld ?_
 try simp only [Act.put,zsA,zsB,zsC]
 refine' wpAnyH_take (i := 20) (oi := _) (v := _) rfl (by kernel_rfl) (by kernel_rfl) (by kernel_rfl) (fun _ _ _ h => h) (yieldsIf_load_mid (by first | (go_simp;done) | rfl) 36 _ rfl _ _ rfl [.slice a7 m7 c7,.slice d7 p7 e7] _ (fun X h => h (b7,[.slice a7 m7 c7,.slice d7 p7 e7]) (.tail _ (.tail _ (.tail _ (.tail _ (.tail _ (.tail _ (.tail _ (.head _))))))))) Try.underlying36 rfl (by kernel_rfl)) hHeld ?_
 try simp only [Act.put,zsA,zsB,zsC]
 have cS := hide (rfsame_any _ _ _ _ 23270 249711 23270 249711 _ h4 g4 h7 g7)
 rw [decide_eq_true (show (23270 : Nat) = 23270 ∧ (249711 : Nat) = 249711 from ⟨rfl,rfl⟩)] at cS
 refine wpAnyH_ready (rs := [21]) (by kernel_rfl) (by simp) ?_
 refine AllReadyH.cons (o := _) rfl (fun K hK => ?_) AllReadyH.nil
 go_simp
 refine (cS.out).mono ?_
 rintro e q21 ⟨rfl,hb⟩
 replace bel := Bel.to bel hb
 replace h0 := Rd.below h0 hb
 replace h1 := Rd.below h1 hb
 replace h2 := Rd.below h2 hb
 replace g2 := Rd.below g2 hb
 replace h3 := Rd.below h3 hb
 replace g3 := Rd.below g3 hb
 replace h4 := Rd.below h4 hb
 replace g4 := Rd.below g4 hb
 replace h5 := Rd.below h5 hb
 replace g5 := Rd.below g5 hb
 replace h6 := Rd.below h6 hb
 replace g6 := Rd.below g6 hb
 replace h7 := Rd.below h7 hb
 replace g7 := Rd.below g7 hb
 go_wp2_with fail
 refine hK.out _ _ (hHeld.keep hb) (fun hHeld => ?_)
 clear hK K
 try simp only [Act.put,zsA,zsB,zsC]
 clear hb cS
 refine' wpAnyH_take (i := 22) (oi := _) (v := .bool true) rfl (by kernel_rfl) (by kernel_rfl) (by kernel_rfl) (fun _ _ _ h => h) (Or.inl ⟨by first | (go_simp;done) | rfl,fun X _ => by go_simp⟩) hHeld ?_
 try simp only [Act.put,zsA,zsB,zsC]
 refine' wpAnyH_take (i := 23) (oi := _) (v := .bool true) rfl (by kernel_rfl) (by kernel_rfl) (by kernel_rfl) (fun _ _ _ h => h) (Or.inl ⟨by first | (go_simp;done) | rfl,fun X _ => by go_simp⟩) hHeld ?_
 try simp only [Act.put,zsA,zsB,zsC]
 refine wpAnyH_done (by kernel_rfl) ?_ _
 go_simp
 go_wp2
 go_ret
 exact ⟨rfl,bel⟩
def Few35 (m n : Nat) (w : World) (e : Ending) (w' : World) : Prop := ∃ b,e = .returned (.bool b) ∧ (b = true → m ≤ 50 ∧ n ≤ 50) ∧ Below w.heap.size w w'
set_option maxHeartbeats 4000000 in
set_option maxRecDepth 100000 in
theorem few35_any (g : GameD) (av tv : Value) (ms : List AddonM) (w : World) (rg : GameR w av tv ms g) :
  Calls Try.prog 7 #[gameVal g av tv] w (Few35 ms.length g.tiers.length w) := by
 have hh := hide rg
 obtain ⟨aa,ac,rfl,hal,ham⟩ := rg.1.1.shape
 obtain ⟨ta,tc,rfl,htl,htm⟩ := rg.2.2.shape
 obtain ⟨an,han⟩ : ∃ an,an = ms.length := ⟨_,rfl⟩
 obtain ⟨tn,htn⟩ : ∃ tn,tn = g.tiers.length := ⟨_,rfl⟩
 have hn63 : (an : Int) ≤ 9223372036854775807 := by unfold maxLen at ham;omega
 rw [← han,← htn] at hh ⊢
 replace han := hide han
 clear rg hal ham htl htm htn
 unfold gameVal
 go_enter Try.func7,Try.ntmps7
 go_upto_region 1 with (fail)
 obtain ⟨W,hW⟩ : ∃ W,W = (w.alloc (Obj.cells #[.string g.name,.int .i64 g.kind,.int .i64 g.price,.int .i64 g.main,.int .i64 g.of,.int .i64 g.bonus,.int .i64 g.bonusOf,.int .i64 g.extra,.int .i64 g.draws,.int .i64 g.system,.int .i64 g.days,.int .i64 g.at_,.int .i64 g.close,.int .i64 g.cancel,.int .i64 g.expiry,.int .i64 g.pool,.int .i64 g.reserve,.int .i64 g.round,.int .i64 g.cap,.int .i64 g.rolls,(.slice aa an ac),(.slice ta tn tc)] 25)) := ⟨_,rfl⟩
 have bW : Below w.heap.size w W := by rw [hW];exact Bel.al (Below.refl _ _) _
 have r0 : GameAt W w.heap.size g (.slice aa an ac) (.slice ta tn tc) := by rw [hW];exact Row.new _ _ _
 rw [← hW]
 clear hW
 have hG := hide (hh.out.below bW)
 clear hh
 have ca := r0.addons
 have ct := r0.tiers
 by_cases h1 : (50 : Int) < (an : Int)
 ·clear hG
  go_wp2
  go_ret
  exact ⟨_,rfl,(fun h => by cases h),bW⟩
 ·by_cases h2 : (50 : Int) < (tn : Int)
  ·clear hG
   go_wp2
   go_ret
   exact ⟨_,rfl,(fun h => by cases h),bW⟩
  ·have h1h := hide h1
   have h2h := hide h2
   go_wp2
   clear h1 h2 ct
   go_loopg [17] an (fun gh t wr => ∃ (i : Nat),gh = an - i ∧ i ≤ an ∧ t = .int .i64 (i : Int) ∧ W = wr)
   case atStart => exact ⟨0,rfl,Nat.zero_le _,rfl,rfl⟩
   case round =>
    obtain ⟨i,hgh,hi,rfl,rfl⟩ := hrel
    replace hgh := hide hgh
    by_cases hlt : i < an
    ·have hlt2 := hide hlt
     have hil : i < ms.length := by rw [← han.out];exact hlt
     obtain ⟨b,off,rfl,hbb,hcell⟩ := hG.out.1.1.at_ hil
     obtain ⟨m,hm⟩ : ∃ m,m = ms[i] := ⟨_,rfl⟩
     have hmi : ms[i]? = some m := by rw [hm];exact List.getElem?_eq_getElem hil
     have hd := hG.out.1.2 i m hmi
     obtain ⟨⟨nm,k1,k2,fl,k3,pl⟩,mv,bv⟩ := m
     obtain ⟨a1,a2,a3,rfl⟩ := hd.1.shape
     obtain ⟨b1,b2,b3,rfl⟩ := hd.2.shape
     have c3 : W.cell? ⟨b,off + i * 6 + 3,none⟩ = some (.slice a1 a2 a3) := hcell i _ hmi 3 _ rfl
     have c5 : W.cell? ⟨b,off + i * 6 + 5,none⟩ = some (.slice b1 b2 b3) := hcell i _ hmi 5 _ rfl
     have i1 : (0 : Int) ≤ (i : Int) := by omega
     have i2 : (i : Int) < (an : Int) := by omega
     clear hcell hm hmi hd
     by_cases q1 : (50 : Int) < (a2 : Int)
     ·go_wp2
      go_ret
      exact ⟨_,rfl,(fun h => by cases h),bW⟩
     ·by_cases q2 : (50 : Int) < (b2 : Int)
      ·go_wp2
       go_ret
       exact ⟨_,rfl,(fun h => by cases h),bW⟩
      ·go_wp2
       go_roundg (an - (i + 1))
       case measure => have := hgh.out;have := hlt2.out;omega
       case rel => exact ⟨i + 1,rfl,by have := hlt2.out;omega,by (have := hlt2.out;go_num),rfl⟩
    ·obtain rfl : an = i := by omega
     go_wp2
     go_ret
     exact ⟨_,rfl,(fun _ => ⟨by have := h1h.out;omega,by have := h2h.out;omega⟩),bW⟩
end Go.Proofs.Ytldikghldcefcaa
end

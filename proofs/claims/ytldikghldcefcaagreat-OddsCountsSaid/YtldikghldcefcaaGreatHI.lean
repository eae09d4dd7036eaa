/- Lemmas, merged out of smaller texts (wip/tools/mergedce.py). No condition. -/
import Derived.Test.YtldikghldcefcaaGreatHB
import Derived.Test.YtldikghldcefcaaGreatHF
import Derived.Test.YtldikghldcefcaaGreatHH
import Derived.Test.YtldikghldcefcaaGreatHM
section
set_option linter.unusedVariables false
set_option linter.unusedSimpArgs false
namespace Go.Proofs.YtldikghldcefcaaGreat
def cc (m k h : Nat) : Nat := if h ≤ k then choose m (k - h) else 0
def sumV (d m k : Nat) : Nat → Nat
 | 0 => 0
 | t + 1 => sumV d m k t + choose d t * cc m k t
theorem sumV_succ (d m k t : Nat) : sumV d m k (t + 1) = sumV d m k t + choose d t * cc m k t := rfl
theorem sumV_zero (d m t : Nat) : sumV d m 0 (t + 1) = 1 := by
 induction t with
 | zero => simp [sumV,cc,choose_zero]
 | succ t ih => rw [sumV_succ,ih];simp [cc]
theorem sumV_split (d m k t : Nat) : sumV (d + 1) m (k + 1) (t + 1) = sumV d m (k + 1) (t + 1) + sumV d m k t := by
 induction t with
 | zero => simp [sumV,choose_zero]
 | succ t ih =>
  rw [sumV_succ,ih,sumV_succ d m (k + 1) (t + 1),sumV_succ d m k t,choose_succ,Nat.add_mul]
  have e : cc m (k + 1) (t + 1) = cc m k t := by
   unfold cc
   by_cases h : t ≤ k
   ·rw [if_pos h,if_pos (by omega),show k + 1 - (t + 1) = k - t by omega]
   ·rw [if_neg h,if_neg (by omega)]
  rw [e]
  omega
theorem vand (d m k : Nat) : sumV d m k (d + 1) = choose (d + m) k := by
 induction d generalizing k with
 | zero => simp [sumV,cc,choose_zero]
 | succ d ih =>
  cases k with
  | zero => rw [sumV_zero,choose_zero]
  | succ k =>
   rw [sumV_split,ih,sumV_succ d m (k + 1) (d + 1),ih,choose_gt (show d < d + 1 by omega),Nat.zero_mul,Nat.add_zero,show d + 1 + m = d + m + 1 by omega,choose_succ]
   omega
theorem sumV_mono (d m k : Nat) {s t : Nat} (h : s ≤ t) : sumV d m k s ≤ sumV d m k t := by
  induction t with
  | zero => obtain rfl : s = 0 := by omega
            exact Nat.le_refl _
  | succ t ih =>
    rcases Nat.lt_or_ge t s with h1 | h1
    · obtain rfl : s = t + 1 := by omega
      exact Nat.le_refl _
    · rw [sumV_succ]; have := ih h1; omega
end Go.Proofs.YtldikghldcefcaaGreat
end
section
open Go.RowKit
set_option linter.unusedVariables false
set_option linter.unusedSimpArgs false
namespace Go.Proofs.YtldikghldcefcaaGreat
theorem sumV_sum (d m k n : Nat) : sumTo (fun t => choose d t * cc m k t) n = sumV d m k n := by
 induction n with
 | zero => rfl
 | succ n ih => rw [sumTo,sumV,ih]
theorem chP_nat (n k : Nat) : chP ((n : Int),(k : Int)) = choose n k := by
 unfold chP chZ chooseI
 simp only []
 rw [if_neg (by omega),if_neg (by omega)]
 simp
theorem chP_sub {n m : Nat} (k : Nat) (h : m ≤ n) : chP ((n : Int) - (m : Int),(k : Int)) = choose (n - m) k := by
 rw [show (n : Int) - (m : Int) = ((n - m : Nat) : Int) by omega,chP_nat]
def wayA (g : GameD) (m x : Nat) : Nat := prodL ([(g.main,(m : Int)),(g.of - g.main,g.main - (m : Int)),(g.main - (m : Int),(x : Int)),(g.of - 2 * g.main + (m : Int),g.extra - (x : Int))].map chP)
theorem prodL_app (l k : List Nat) : prodL (l ++ k) = prodL l * prodL k := by
 induction l with
 | nil => simp [prodL]
 | cons x t ih => rw [List.cons_append,prodL,prodL,ih,Nat.mul_assoc]
theorem wayN_split (g : GameD) (m x b : Nat) : wayN g m x b = wayA g m x * (chP (g.bonus,(b : Int)) * chP (g.bonusOf - g.bonus,g.bonus - (b : Int))) := by
 unfold wayN wayP wayA
 rw [show ∀ a b c d e f : Int × Int,[a,b,c,d,e,f] = [a,b,c,d] ++ [e,f] from fun _ _ _ _ _ _ => rfl,List.map_append,prodL_app]
 simp [prodL]
def condsG (g : GameD) : List CondD := g.tiers.map (condOf g.main.toNat)
def winV (g : GameD) (t : Int) : Nat := if g.kind = 2 then win2 g.of.toNat g.main.toNat (condsG g) t.toNat else winC g t
def winS (g : GameD) : Nat := sumTo (fun i => winV g (i : Int)) g.tiers.length
theorem winV_dig {g : GameD} (hk : g.kind = 2) (t : Int) : winV g t = win2 g.of.toNat g.main.toNat (condsG g) t.toNat := by unfold winV;rw [if_pos hk]
theorem winV_cho {g : GameD} (hk : g.kind ≠ 2) (t : Int) : winV g t = winC g t := by unfold winV;rw [if_neg hk]
theorem winS_dig {g : GameD} (hk : g.kind = 2) : winS g = sumTo (win2 g.of.toNat g.main.toNat (condsG g)) (condsG g).length := by
 unfold winS
 rw [show (condsG g).length = g.tiers.length by unfold condsG;rw [List.length_map]]
 exact sumTo_congr fun i _ => by rw [winV_dig hk,Int.toNat_natCast]
theorem firstGo_sum (p : TierD → Bool) (l : List TierD) : ∀ (a K : Nat),sumTo (fun i => if firstGo p l (a : Int).toNat = ((a + i : Nat) : Int) then K else 0) l.length = if l.any p = true then K else 0 := by
 induction l with
 | nil => intro a K;simp [sumTo]
 | cons t r ih =>
  intro a K
  rw [List.length_cons,sumTo_front,List.any_cons]
  simp only [firstGo,Int.toNat_natCast,Nat.add_zero]
  by_cases h : p t = true
  ·simp only [if_pos h]
   rw [if_pos True.intro,h,Bool.true_or,if_pos rfl,sumTo_congr (g := fun _ => 0),sumTo_zero,Nat.add_zero]
   intro k _
   rw [if_neg (by omega)]
  ·have hp : p t = false := by simpa using h
   simp only [if_neg h]
   rw [hp,Bool.false_or]
   have h1 := ih (a + 1) K
   rw [Int.toNat_natCast] at h1
   rw [← h1]
   have h0 : ¬ firstGo p r (a + 1) = (a : Int) := by
    have key : ∀ (r : List TierD) (c : Nat),firstGo p r c = -1 ∨ (c : Int) ≤ firstGo p r c := by
     intro r
     induction r with
     | nil => intro c;exact .inl rfl
     | cons x r ihr =>
      intro c
      unfold firstGo
      split
      ·exact .inr (Int.le_refl _)
      ·rcases ihr (c + 1) with h | h
       ·exact .inl h
       ·exact .inr (by omega)
    rcases key r (a + 1) with h | h <;> omega
   rw [if_neg h0,Nat.zero_add]
   exact sumTo_congr fun k _ => by rw [show a + (k + 1) = a + 1 + k by omega]
theorem winH_sum (g : GameD) (m x b : Nat) : sumTo (fun i => winH g (i : Int) m x b) g.tiers.length = if g.tiers.any (hitT m x b) = true then wayN g m x b else 0 := by
 have h := firstGo_sum (hitT m x b) g.tiers 0 (wayN g m x b)
 rw [← h]
 exact sumTo_congr fun i _ => by unfold winH wonC;rw [Nat.zero_add];rfl
theorem sumTo_swap (f : Nat → Nat → Nat) (a b : Nat) : sumTo (fun i => sumTo (f i) b) a = sumTo (fun j => sumTo (fun i => f i j) a) b := by
 induction a with
 | zero => simp only [sumTo];rw [sumTo_zero]
 | succ a ih => simp only [sumTo];rw [sumTo_add,ih]
theorem winC_sum (g : GameD) : sumTo (fun i => winC g (i : Int)) g.tiers.length = sumTo (fun m => sumTo (fun x => sumTo (fun b => if g.tiers.any (hitT m x b) = true then wayN g m x b else 0) (g.bonus.toNat + 1)) (g.extra.toNat + 1)) (g.main.toNat + 1) := by
 unfold winC
 rw [sumTo_swap]
 refine sumTo_congr fun m _ => ?_
 unfold winF
 rw [sumTo_swap]
 refine sumTo_congr fun x _ => ?_
 unfold winG
 rw [sumTo_swap]
 exact sumTo_congr fun b _ => winH_sum g m x b
theorem winS_cho {g : GameD} (hk : g.kind ≠ 2) : winS g = sumTo (fun m => sumTo (fun x => sumTo (fun b => if g.tiers.any (hitT m x b) = true then wayN g m x b else 0) (g.bonus.toNat + 1)) (g.extra.toNat + 1)) (g.main.toNat + 1) := by
 rw [← winC_sum]
 exact sumTo_congr fun i _ => winV_cho hk _
theorem sumV_le (d m k t : Nat) : sumV d m k t ≤ choose (d + m) k := by
 rw [← vand]
 rcases Nat.le_total t (d + 1) with h | h
 ·exact sumV_mono d m k h
 ·obtain ⟨j,rfl⟩ : ∃ j,t = d + 1 + j := ⟨t - (d + 1),by omega⟩
  clear h
  induction j with
  | zero => exact Nat.le_refl _
  | succ j ih => rw [show d + 1 + (j + 1) = d + 1 + j + 1 by omega,sumV_succ,choose_gt (show d < d + 1 + j by omega),Nat.zero_mul];exact ih
theorem hyp_le (d m : Int) (k n : Nat) (hd : 0 ≤ d) (K : Int) (hK : K = (k : Int)) (hdm : 0 ≤ d + m) : sumTo (fun t => chP (d,(t : Int)) * chP (m,K - (t : Int))) n ≤ choose (d + m).toNat k := by
 subst hK
 obtain ⟨D,rfl⟩ : ∃ D : Nat,d = (D : Int) := ⟨d.toNat,by omega⟩
 by_cases hm : m < 0
 ·rw [sumTo_congr (g := fun _ => 0),sumTo_zero]
  ·exact Nat.zero_le _
  ·intro t _
   have : chP (m,(k : Int) - (t : Int)) = 0 := by unfold chP chZ;rw [if_pos hm]
   rw [this,Nat.mul_zero]
 ·obtain ⟨M,rfl⟩ : ∃ M : Nat,m = (M : Int) := ⟨m.toNat,by omega⟩
  have e : ∀ t,t < n → chP ((D : Int),(t : Int)) * chP ((M : Int),(k : Int) - (t : Int)) = choose D t * cc M k t := by
   intro t _
   rw [chP_nat]
   congr 1
   unfold cc
   by_cases h : t ≤ k
   ·rw [if_pos h,show (k : Int) - (t : Int) = ((k - t : Nat) : Int) by omega,chP_nat]
   ·rw [if_neg h]
    unfold chP chZ chooseI
    simp only []
    rw [if_neg (by omega),if_pos (by omega)]
  rw [sumTo_congr e,sumV_sum]
  have h := sumV_le D M k n
  rwa [show ((D : Int) + (M : Int)).toNat = D + M by omega]
theorem outN_cho {g : GameD} (hk : g.kind ≠ 2) : outN g = chP (g.of,g.main) * (chP (g.of - g.main,g.extra) * chP (g.bonusOf,g.bonus)) := by
 unfold outN
 rw [if_neg hk]
 simp only [prodL,Nat.mul_one]
theorem way_all_le {g : GameD} (hk : g.kind ≠ 2) (hc : ChoF g) (he : g.main + g.extra ≤ g.of) : sumTo (fun m => sumTo (fun x => sumTo (fun b => wayN g m x b) (g.bonus.toNat + 1)) (g.extra.toNat + 1)) (g.main.toNat + 1) ≤ outN g := by
 have c1 := hc.m1
 have c2 := hc.o1
 have c3 := hc.b1
 have c4 := hc.p1
 have c5 := hc.e1
 have hB : ∀ m x,sumTo (fun b => wayN g m x b) (g.bonus.toNat + 1) ≤ wayA g m x * chP (g.bonusOf,g.bonus) := by
  intro m x
  rw [sumTo_congr (g := fun b => wayA g m x * (chP (g.bonus,(b : Int)) * chP (g.bonusOf - g.bonus,g.bonus - (b : Int)))) (fun b _ => wayN_split g m x b),sumTo_mul]
  refine Nat.mul_le_mul_left _ ?_
  have h := hyp_le g.bonus (g.bonusOf - g.bonus) g.bonus.toNat (g.bonus.toNat + 1) c3 g.bonus (by omega) (by omega)
  rw [show g.bonus + (g.bonusOf - g.bonus) = g.bonusOf by omega] at h
  have e : chP (g.bonusOf,g.bonus) = choose g.bonusOf.toNat g.bonus.toNat := by
   have := chP_nat g.bonusOf.toNat g.bonus.toNat
   rwa [show (g.bonusOf.toNat : Int) = g.bonusOf by omega,show (g.bonus.toNat : Int) = g.bonus by omega] at this
  rw [e];exact h
 have hA : ∀ m x,wayA g m x = (chP (g.main,(m : Int)) * chP (g.of - g.main,g.main - (m : Int))) * (chP (g.main - (m : Int),(x : Int)) * chP (g.of - 2 * g.main + (m : Int),g.extra - (x : Int))) := by
  intro m x
  unfold wayA
  simp only [List.map_cons,List.map_nil,prodL,Nat.mul_one]
  rw [Nat.mul_assoc]
 have hX : ∀ m,m < g.main.toNat + 1 → sumTo (fun x => sumTo (fun b => wayN g m x b) (g.bonus.toNat + 1)) (g.extra.toNat + 1) ≤ (chP (g.main,(m : Int)) * chP (g.of - g.main,g.main - (m : Int))) * (chP (g.of - g.main,g.extra) * chP (g.bonusOf,g.bonus)) := by
  intro m hm
  refine Nat.le_trans (sumTo_le fun x _ => hB m x) ?_
  rw [sumTo_congr (g := fun x => (chP (g.bonusOf,g.bonus) * (chP (g.main,(m : Int)) * chP (g.of - g.main,g.main - (m : Int)))) * (chP (g.main - (m : Int),(x : Int)) * chP (g.of - 2 * g.main + (m : Int),g.extra - (x : Int)))) (fun x _ => by rw [hA,Nat.mul_comm,← Nat.mul_assoc]),sumTo_mul]
  have h := hyp_le (g.main - (m : Int)) (g.of - 2 * g.main + (m : Int)) g.extra.toNat (g.extra.toNat + 1) (by omega) g.extra (by omega) (by omega)
  rw [show g.main - (m : Int) + (g.of - 2 * g.main + (m : Int)) = g.of - g.main by omega] at h
  have e : chP (g.of - g.main,g.extra) = choose (g.of - g.main).toNat g.extra.toNat := by
   have := chP_nat (g.of - g.main).toNat g.extra.toNat
   rwa [show ((g.of - g.main).toNat : Int) = g.of - g.main by omega,show (g.extra.toNat : Int) = g.extra by omega] at this
  rw [← e] at h
  refine Nat.le_trans (Nat.mul_le_mul_left _ h) (Nat.le_of_eq ?_)
  generalize chP (g.bonusOf,g.bonus) = a
  generalize chP (g.main,(m : Int)) * chP (g.of - g.main,g.main - (m : Int)) = b
  generalize chP (g.of - g.main,g.extra) = c
  grind
 refine Nat.le_trans (sumTo_le hX) ?_
 rw [sumTo_congr (g := fun m => (chP (g.of - g.main,g.extra) * chP (g.bonusOf,g.bonus)) * (chP (g.main,(m : Int)) * chP (g.of - g.main,g.main - (m : Int)))) (fun m _ => Nat.mul_comm _ _),sumTo_mul,outN_cho hk,Nat.mul_comm]
 refine Nat.mul_le_mul_right _ ?_
 have h := hyp_le g.main (g.of - g.main) g.main.toNat (g.main.toNat + 1) (by omega) g.main (by omega) (by omega)
 rw [show g.main + (g.of - g.main) = g.of by omega] at h
 have e : chP (g.of,g.main) = choose g.of.toNat g.main.toNat := by
  have := chP_nat g.of.toNat g.main.toNat
  rwa [show (g.of.toNat : Int) = g.of by omega,show (g.main.toNat : Int) = g.main by omega] at this
 rw [e];exact h
theorem winS_le {g : GameD} (he : gameE g = 0) : winS g ≤ outN g := by
 by_cases hk : g.kind = 2
 ·rw [winS_dig hk]
  unfold outN
  rw [if_pos hk]
  exact win2_le _ _ _
 ·rw [winS_cho hk]
  refine Nat.le_trans (sumTo_le fun m _ => sumTo_le fun x _ => sumTo_le fun b _ => ?_) (way_all_le hk (choF he hk) (mat_sum (game_mat he) hk))
  split
  ·exact Nat.le_refl _
  ·exact Nat.zero_le _
theorem winV_le {g : GameD} (he : gameE g = 0) {i : Nat} (hi : i < g.tiers.length) : winV g (i : Int) ≤ outN g := by
 refine Nat.le_trans ?_ (winS_le he)
 unfold winS
 have h1 : sumTo (fun i => winV g (i : Int)) (i + 1) ≤ sumTo (fun i => winV g (i : Int)) g.tiers.length := sumTo_mono hi
 rw [sumTo] at h1
 omega
theorem outN_ten {g : GameD} (he : gameE g = 0) : (limbs (outN g)).length ≤ 10 := by
 have h := mat_facts (game_mat he)
 by_cases hk : g.kind = 2
 ·unfold outN
  rw [if_pos hk]
  have := pow_limbs (d := g.of.toNat) (n := 2 * g.main.toNat) (by have := h.2.2.2.2.2.2.1 hk;omega) (by omega)
  omega
 ·rw [outN_cho hk]
  have h2 := choF he hk
  have h4 := h2.m1
  have h5 := h2.o2
  have h6 := h2.p2
  have a1 : (limbs (chP (g.of,g.main))).length ≤ 3 := chZ_limbs _ _ (by simp only [];omega)
  have a2 : (limbs (chP (g.of - g.main,g.extra))).length ≤ 3 := chZ_limbs _ _ (by simp only [];omega)
  have a3 : (limbs (chP (g.bonusOf,g.bonus))).length ≤ 3 := chZ_limbs _ _ (by simp only [];omega)
  have b1 := limbs_mul (chP (g.of,g.main)) (chP (g.of - g.main,g.extra) * chP (g.bonusOf,g.bonus))
  have b2 := limbs_mul (chP (g.of - g.main,g.extra)) (chP (g.bonusOf,g.bonus))
  omega
end Go.Proofs.YtldikghldcefcaaGreat
end
section
set_option linter.unusedVariables false
set_option linter.unusedSimpArgs false
namespace Go.Proofs.YtldikghldcefcaaGreat
open Go.RowKit
set_option maxHeartbeats 4000000 in
set_option maxRecDepth 100000 in
theorem owin_dig (g : GameD) (av tv : Value) (ms : List AddonM) (t : Nat) (w : World) (hr : GameR w av tv ms g) (he : gameE g = 0) (hk : g.kind = 2) (ht : t < g.tiers.length) :
  Calls Tryz.prog 30 #[gameVal g av tv,.int .i64 (t : Int)] w (NatC (winV g (t : Int)) 0 w) := by
 have hmf := mat_facts (game_mat he)
 obtain ⟨P,hP⟩ : ∃ P,P = winV g (t : Int) := ⟨_,rfl⟩
 have cD := hide (fun X (hX : Below w.heap.size w X) => odig_any g av tv ms g.of.toNat g.main.toNat t X (hr.below hX) he hk (by omega) (by omega) ht)
 have e : P = win2 g.of.toNat g.main.toNat (g.tiers.map (condOf g.main.toNat)) t := by rw [hP,winV_dig hk,Int.toNat_natCast];rfl
 rw [← e] at cD
 rw [← hP]
 clear e hP hmf ht he
 replace hk := hide hk
 obtain ⟨aa,ac,rfl,hal,ham⟩ := hr.1.1.shape
 obtain ⟨ta,tc,rfl,htl,htm⟩ := hr.2.2.shape
 obtain ⟨an,han⟩ : ∃ an,an = ms.length := ⟨_,rfl⟩
 obtain ⟨tn,htn⟩ : ∃ tn,tn = g.tiers.length := ⟨_,rfl⟩
 rw [← han,← htn] at cD ⊢
 clear hr hal htl ham htm han htn
 unfold gameVal at cD ⊢
 go_enter Tryz.func30,Tryz.ntmps30
 go_upto_region 1 with (fail)
 obtain ⟨W,hW⟩ : ∃ W,W = (w.alloc (Obj.cells #[.string g.name,.int .i64 g.kind,.int .i64 g.price,.int .i64 g.main,.int .i64 g.of,.int .i64 g.bonus,.int .i64 g.bonusOf,.int .i64 g.extra,.int .i64 g.draws,.int .i64 g.system,.int .i64 g.days,.int .i64 g.at_,.int .i64 g.close,.int .i64 g.cancel,.int .i64 g.expiry,.int .i64 g.pool,.int .i64 g.reserve,.int .i64 g.round,.int .i64 g.cap,.int .i64 g.rolls,(.slice aa an ac),(.slice ta tn tc)] 25)).alloc (Obj.cells #[.slice none 0 0] 30) := ⟨_,rfl⟩
 have bel : Below w.heap.size w W := by rw [hW];exact Bel.al (Bel.al (Below.refl _ _) _) _
 have rg : GameAt W w.heap.size g (.slice aa an ac) (.slice ta tn tc) := by rw [hW];exact Row.alloc (Row.new _ _ _) _
 have rR : Row W (w.heap.size + 1) 30 [.slice none 0 0] := by rw [hW];exact Row.at2 _ _ _ _
 rw [← hW]
 clear hW
 have ck := rg.kind
 rw [hk.out] at ck
 have cD2 := hide (cD.out W bel)
 clear cD
 go_wp2_with (first | (refine wpList_load_row rfl 25 _ rfl _ rfl _ _ _ _ rg Tryz.underlying25 rfl (by kernel_rfl) ?_) | fail)
 refine cD2.out.mono ?_
 rintro e w1 ⟨u,rfl,hp,hb1⟩
 obtain ⟨pa,pn,pc,rfl⟩ := Rd.shape hp
 replace rR := Row.keep rR hb1
 replace bel := Bel.to bel hb1
 clear hb1 cD2 ck rg
 have cR := rR.cell? 0
 have fR := rR.frozen 0
 simp only [List.getElem?_cons_zero] at cR
 have hf := Rd.setNe hp cR (fun _ h => by cases h) (.slice pa pn pc)
 have belf := Bel.st bel (p := ⟨w.heap.size + 1,0,none⟩) (by simp only [];omega) (.slice pa pn pc)
 go_wp2
 exact bodyPost_ret (v := .tuple #[.agg #[(.slice pa pn pc)],.int .i64 0]) (by simp [results,Tryz.results30,go_sem,cR]) rfl ⟨_,rfl,hf,belf⟩
theorem owin_any (g : GameD) (av tv : Value) (ms : List AddonM) (he : gameE g = 0) (t : Int) (X : World) (h0 : 0 ≤ t) (h1 : t < g.tiers.length) (hr : GameR X av tv ms g) :
  Calls Tryz.prog 30 #[gameVal g av tv,.int .i64 t] X (NatC (winV g t) 0 X) := by
 by_cases hk : g.kind = 2
 ·obtain ⟨n,rfl⟩ : ∃ n : Nat,t = (n : Int) := ⟨t.toNat,by omega⟩
  exact owin_dig g av tv ms n X hr he hk (by omega)
 ·rw [winV_cho hk]
  exact owin_choose g av tv ms t X hr he hk
theorem oWin_val (g : GameD) (av tv : Value) (ms : List AddonM) (t : Int) (w : World) (rg : GameR w av tv ms g) :
  Calls Tryz.prog 8 #[gameVal g av tv,.int .i64 t] w (NatC (WinO g (winV g) t).1 (WinO g (winV g) t).2 w) :=
 oWin_any g av tv ms (winV g) t w rg _ _ rfl (fun he t X h0 h1 hX => owin_any g av tv ms he t X h0 h1 hX)
end Go.Proofs.YtldikghldcefcaaGreat
end

/- Lemmas, merged out of smaller texts (wip/tools/mergedce.py). No condition. -/
import Derived.BigQuiet
import Derived.Test.YtldikghldcefcaaGreatHC
import Derived.Test.YtldikghldcefcaaGreatHB
import Derived.Test.YtldikghldcefcaaGreatHI
import Derived.Test.YtldikghldcefcaaGreatHCore
import Derived.Test.YtldikghldcefcaaGreatHJ
import Derived.Test.YtldikghldcefcaaGreatHE
import Derived.Test.YtldikghldcefcaaGreatHN
section
set_option linter.unusedVariables false
set_option linter.unusedSimpArgs false
namespace Go.Proofs.YtldikghldcefcaaGreat
theorem sumTo_cut (f : Nat → Nat) (a b : Nat) : sumTo f (a + b) = sumTo f a + sumTo (fun k => f (a + k)) b := by
 induction b with
 | zero => rfl
 | succ b ih => rw [← Nat.add_assoc,sumTo,ih,sumTo];omega
def rngI : Nat → Nat → List Int
 | _,0 => []
 | w,m + 1 => (w : Int) :: rngI (w + 1) m
theorem rngI_len (w m : Nat) : (rngI w m).length = m := by
 induction m generalizing w with
 | zero => rfl
 | succ m ih => rw [rngI,List.length_cons,ih]
theorem rngI_mem {w m : Nat} {x : Int} : x ∈ rngI w m ↔ (w : Int) ≤ x ∧ x < (w : Int) + m := by
 induction m generalizing w with
 | zero => simp [rngI]
 | succ m ih => rw [rngI,List.mem_cons,ih];omega
theorem rngI_count (w m : Nat) (x : Int) : (rngI w m).count x = if (w : Int) ≤ x ∧ x < (w : Int) + m then 1 else 0 := by
 induction m generalizing w with
 | zero => rw [if_neg (by omega)];rfl
 | succ m ih =>
  rw [rngI,List.count_cons,ih]
  simp only [beq_iff_eq]
  repeat' split
  all_goals omega
theorem unrankL_lo {m w r j : Nat} (h : r < choose m j) : unrankL (m + 1) w r (j + 1) = (w : Int) :: unrankL m (w + 1) r j := by
 rw [unrankL,if_neg (by omega),Nat.add_sub_cancel,if_pos h]
theorem unrankL_hi (m w k j : Nat) : unrankL (m + 1) w (choose m j + k) (j + 1) = unrankL m (w + 1) k (j + 1) := by
 rw [unrankL,if_neg (by omega),Nat.add_sub_cancel,if_neg (by omega),Nat.add_sub_cancel_left]
theorem comb_hits (q : Int → Bool) (m w j h : Nat) :
  sumTo (fun r => if (unrankL m w r j).countP q = h then 1 else 0) (choose m j) = choose ((rngI w m).countP q) h * cc (m - (rngI w m).countP q) j h := by
 have hA : ∀ w m,(rngI w m).countP q ≤ m := fun w m => by have := List.countP_le_length (p := q) (l := rngI w m);rwa [rngI_len] at this
 induction m generalizing w j h with
 | zero =>
  cases j with
  | zero =>
   cases h with
   | zero => simp [sumTo,choose,unrankL,rngI,cc]
   | succ h => simp [sumTo,choose,unrankL,rngI,cc]
  | succ j =>
   cases h with
   | zero => simp [sumTo,choose,rngI,cc]
   | succ h => simp [sumTo,choose,rngI,cc]
 | succ m ih =>
  cases j with
  | zero =>
   rw [choose_zero]
   cases h with
   | zero => simp [sumTo,unrankL_zero,cc,choose_zero]
   | succ h => simp [sumTo,unrankL_zero,cc]
  | succ j =>
   have hle := hA (w + 1) m
   rw [choose_succ,sumTo_cut]
   have e2 : sumTo (fun k => if (unrankL (m + 1) w (choose m j + k) (j + 1)).countP q = h then 1 else 0) (choose m (j + 1)) = choose ((rngI (w + 1) m).countP q) h * cc (m - (rngI (w + 1) m).countP q) (j + 1) h := by
    rw [← ih (w + 1) (j + 1) h]
    refine sumTo_congr fun k hk => ?_
    rw [unrankL_hi]
   have e1 : sumTo (fun r => if (unrankL (m + 1) w r (j + 1)).countP q = h then 1 else 0) (choose m j) = sumTo (fun r => if ((w : Int) :: unrankL m (w + 1) r j).countP q = h then 1 else 0) (choose m j) := by
    refine sumTo_congr fun k hk => ?_
    rw [unrankL_lo hk]
   rw [e1,e2,rngI,List.countP_cons]
   obtain ⟨A,hAe⟩ : ∃ A,A = (rngI (w + 1) m).countP q := ⟨_,rfl⟩
   have ih1 := ih (w + 1) j
   rw [← hAe] at ih1 hle ⊢
   by_cases hq : q (w : Int) = true
   ·rw [if_pos hq]
    cases h with
    | zero =>
     rw [sumTo_congr (g := fun _ => 0),sumTo_zero,Nat.zero_add,choose_zero,choose_zero]
     ·unfold cc
      rw [if_pos (by omega),if_pos (by omega),show m + 1 - (A + 1) = m - A by omega]
     ·intro k _
      rw [List.countP_cons_of_pos hq,if_neg (by omega)]
    | succ h =>
     rw [sumTo_congr (g := fun r => if (unrankL m (w + 1) r j).countP q = h then 1 else 0),ih1 h,choose_succ,show m + 1 - (A + 1) = m - A by omega]
     ·unfold cc
      rw [show j + 1 - (h + 1) = j - h by omega]
      by_cases h1 : h ≤ j
      ·rw [if_pos h1,if_pos (by omega),Nat.add_mul]
      ·rw [if_neg h1,if_neg (by omega)];simp
     ·intro k _
      rw [List.countP_cons_of_pos hq]
      by_cases e : (unrankL m (w + 1) k j).countP q = h
      ·rw [if_pos e,if_pos (by omega)]
      ·rw [if_neg e,if_neg (by omega)]
   ·simp only [if_neg hq,Nat.add_zero]
    rw [sumTo_congr (g := fun r => if (unrankL m (w + 1) r j).countP q = h then 1 else 0),ih1 h,show m + 1 - A = (m - A) + 1 by omega]
    ·unfold cc
     by_cases h1 : h ≤ j
     ·rw [if_pos h1,if_pos (by omega),if_pos (by omega),show j + 1 - h = (j - h) + 1 by omega,choose_succ,Nat.mul_add]
     ·rw [if_neg h1,Nat.mul_zero,Nat.zero_add]
      by_cases h2 : h ≤ j + 1
      ·rw [if_pos h2,if_pos h2,show j + 1 - h = 0 by omega,choose_zero,choose_zero]
      ·rw [if_neg h2,if_neg h2]
    ·intro k _
     rw [List.countP_cons_of_neg hq]
theorem comb_sum (q : Int → Bool) (m w j : Nat) (G : Nat → Nat) :
  sumTo (fun r => G ((unrankL m w r j).countP q)) (choose m j) = sumTo (fun h => choose ((rngI w m).countP q) h * cc (m - (rngI w m).countP q) j h * G h) (j + 1) := by
 have e : ∀ r,r < choose m j → G ((unrankL m w r j).countP q) = sumTo (fun h => G h * if (unrankL m w r j).countP q = h then 1 else 0) (j + 1) := by
  intro r hr
  have h1 : (unrankL m w r j).countP q ≤ j := by have := List.countP_le_length (p := q) (l := unrankL m w r j);rwa [unrankL_len hr] at this
  rw [sumTo_one (j := (unrankL m w r j).countP q) (by omega),if_pos rfl,Nat.mul_one]
  intro k _ hk
  rw [if_neg (fun x => hk x.symm),Nat.mul_zero]
 rw [sumTo_congr e,sumTo_swap]
 refine sumTo_congr fun h _ => ?_
 rw [sumTo_mul,comb_hits,Nat.mul_comm]
theorem count_split (p q : Int → Bool) (l : List Int) : l.countP p = l.countP (fun x => p x && q x) + l.countP (fun x => p x && !q x) := by
 induction l with
 | nil => rfl
 | cons x t ih =>
  simp only [List.countP_cons,ih]
  cases p x <;> cases q x <;> simp <;> omega
theorem nodup_count {l : List Int} (hn : l.Nodup) (x : Int) : l.count x = if x ∈ l then 1 else 0 := by
 induction l with
 | nil => simp
 | cons y t ih =>
  obtain ⟨h1,h2⟩ := List.nodup_cons.1 hn
  rw [List.count_cons,ih h2]
  by_cases e : y = x
  ·subst e;simp [h1]
  ·have e2 : ¬ x = y := fun h => e h.symm
   by_cases hm : x ∈ t <;> simp [hm,e,e2]
theorem set_perm {n : Nat} {l : List Int} (hn : l.Nodup) (hl : ∀ x ∈ l,1 ≤ x ∧ x ≤ n) : l.Perm ((rngI 1 n).filter fun x => decide (x ∈ l)) := by
 refine List.perm_iff_count.2 fun x => ?_
 rw [nodup_count hn]
 by_cases h : x ∈ l
 ·rw [if_pos h,List.count_filter (by simpa using h),rngI_count,if_pos (by have := hl x h;omega)]
 ·rw [if_neg h]
  symm
  rw [List.count_eq_zero]
  intro hm
  have := (List.mem_filter.1 hm).2
  exact h (by simpa using this)
theorem set_countP {n : Nat} {l : List Int} (hn : l.Nodup) (hl : ∀ x ∈ l,1 ≤ x ∧ x ≤ n) (p : Int → Bool) : (rngI 1 n).countP (fun x => p x && decide (x ∈ l)) = l.countP p := by
 rw [(set_perm hn hl).countP_eq,List.countP_filter]
theorem set_size {n : Nat} {l : List Int} (hn : l.Nodup) (hl : ∀ x ∈ l,1 ≤ x ∧ x ≤ n) : (rngI 1 n).countP (fun x => decide (x ∈ l)) = l.length := by
 have h := set_countP hn hl fun _ => true
 simp only [Bool.true_and] at h
 rw [h]
 exact List.countP_eq_length.2 fun _ _ => rfl
theorem hits_countP {a : List Int} (hn : a.Nodup) (b : List Int) : (a.map fun x => b.count x).sum = b.countP fun y => decide (y ∈ a) := by
 have key0 : ∀ (x : Int) (r b : List Int),(b.map fun y => (x :: r).count y).sum = (b.map fun y => r.count y).sum + b.count x := by
  intro x r b
  induction b with
  | nil => rfl
  | cons y t ih =>
   rw [List.map_cons,List.sum_cons,ih,List.map_cons,List.sum_cons,List.count_cons,List.count_cons]
   simp only [beq_iff_eq]
   repeat' split
   all_goals omega
 have key : (a.map fun x => b.count x).sum = (b.map fun y => a.count y).sum := by
  clear hn
  induction a with
  | nil =>
   induction b with
   | nil => rfl
   | cons y t ih => rw [List.map_cons,List.sum_cons,← ih];rfl
  | cons x r ih => rw [List.map_cons,List.sum_cons,ih,key0];omega
 rw [key]
 clear key key0
 induction b with
 | nil => rfl
 | cons y t ih =>
  rw [List.map_cons,List.sum_cons,ih,nodup_count hn,List.countP_cons]
  by_cases h : y ∈ a
  ·rw [if_pos h,if_pos (by simpa using h)];omega
  ·rw [if_neg h,if_neg (by simpa using h)];omega
def restL (l : List Int) (n : Nat) : List Int := (rngI 1 n).filter fun x => l.count x == 0
theorem rest_count {n : Nat} {l : List Int} (hn : l.Nodup) (hl : ∀ x ∈ l,1 ≤ x ∧ x ≤ n) : (restL l n).length = n - l.length := by
 have h1 := count_split (fun _ => true) (fun x => decide (x ∈ l)) (rngI 1 n)
 simp only [Bool.true_and] at h1
 rw [set_size hn hl,List.countP_eq_length.2 (fun _ _ => rfl),rngI_len] at h1
 have h2 : (restL l n).length = (rngI 1 n).countP fun x => !decide (x ∈ l) := by
  unfold restL
  rw [← List.countP_eq_length_filter]
  refine List.countP_congr fun x _ => ?_
  by_cases h : x ∈ l <;> simp [h,List.count_eq_zero]
 omega
theorem rest_hits {n : Nat} {l : List Int} (hn : l.Nodup) (hl : ∀ x ∈ l,1 ≤ x ∧ x ≤ n) {L : List Int} (hn2 : L.Nodup) (hL : ∀ x ∈ L,1 ≤ x ∧ x ≤ n) : (restL l n).countP (fun x => decide (x ∈ L)) + l.countP (fun x => decide (x ∈ L)) = L.length := by
 have h1 := count_split (fun x => decide (x ∈ L)) (fun x => decide (x ∈ l)) (rngI 1 n)
 rw [set_size hn2 hL,set_countP hn hl] at h1
 have h2 : (restL l n).countP (fun x => decide (x ∈ L)) = (rngI 1 n).countP fun x => decide (x ∈ L) && !decide (x ∈ l) := by
  unfold restL
  rw [List.countP_filter]
  refine List.countP_congr fun x _ => ?_
  by_cases h : x ∈ l <;> simp [h,List.count_eq_zero]
 omega
theorem places_countP (R : List Int) (p : Int → Bool) (w : Nat) (hw : 1 ≤ w) : (rngI w R.length).countP (fun v => p (R.getD (v - (w : Int)).toNat 0)) = R.countP p := by
 induction R generalizing w with
 | nil => rfl
 | cons x t ih =>
  rw [List.length_cons,rngI,List.countP_cons,List.countP_cons,← ih (w + 1) (by omega)]
  congr 1
  ·refine List.countP_congr fun v hv => ?_
   have := rngI_mem.1 hv
   rw [show (v - (w : Int)).toNat = (v - ((w + 1 : Nat) : Int)).toNat + 1 by omega]
   simp
  ·rw [show ((w : Int) - (w : Int)).toNat = 0 by omega]
   simp
theorem unrankL_nodup {m w r j : Nat} (h : r < choose m j) : (unrankL m w r j).Nodup ∧ ∀ x ∈ unrankL m w r j,(w : Int) ≤ x ∧ x < (w : Int) + m := by
 induction m generalizing w r j with
 | zero => exact ⟨by simp [unrankL],by simp [unrankL]⟩
 | succ m ih =>
  cases j with
  | zero => rw [unrankL_zero];exact ⟨by simp,by simp⟩
  | succ j =>
   rw [choose_succ] at h
   rw [unrankL,if_neg (by omega),Nat.add_sub_cancel]
   split
   ·next h1 =>
    obtain ⟨k1,k2⟩ := ih (w := w + 1) (r := r) (j := j) h1
    refine ⟨List.nodup_cons.2 ⟨fun hm => ?_,k1⟩,fun x hx => ?_⟩
    ·have := k2 _ hm;omega
    ·rcases List.mem_cons.1 hx with rfl | hx
     ·omega
     ·have := k2 x hx;omega
   ·next h1 =>
    obtain ⟨k1,k2⟩ := ih (w := w + 1) (r := r - choose m j) (j := j + 1) (by omega)
    exact ⟨k1,fun x hx => by have := k2 x hx;omega⟩
def digN (d : Nat) : Nat → Nat → List Nat
 | 0,_ => []
 | n + 1,x => digN d n (x / d) ++ [x % d]
theorem digN_len (d n x : Nat) : (digN d n x).length = n := by
 induction n generalizing x with
 | zero => rfl
 | succ n ih => rw [digN,List.length_append,ih];rfl
theorem sumTo_grid (F : Nat → Nat → Nat) {d : Nat} (hd : 0 < d) (n : Nat) : sumTo (fun x => F (x / d) (x % d)) (n * d) = sumTo (fun q => sumTo (F q) d) n := by
 induction n with
 | zero => rw [Nat.zero_mul];rfl
 | succ n ih =>
  rw [Nat.add_mul,Nat.one_mul,sumTo_cut,ih,sumTo]
  congr 1
  refine sumTo_congr fun k hk => ?_
  rw [Nat.mul_comm,Nat.mul_add_div hd,Nat.div_eq_of_lt hk,Nat.mul_add_mod,Nat.mod_eq_of_lt hk,Nat.add_zero]
theorem digN_sum {d : Nat} (hd : 0 < d) (n : Nat) (f : List Nat → Nat) : sumTo (fun x => f (digN d n x)) (d ^ n) = sumD d n f := by
 induction n generalizing f with
 | zero => simp [sumTo,digN,sumD]
 | succ n ih =>
  have h1 := sumTo_grid (fun q c => f (digN d n q ++ [c])) hd (d ^ n)
  have h2 : sumTo (fun x => f (digN d (n + 1) x)) (d ^ (n + 1)) = sumTo (fun q => sumTo (fun c => f (digN d n q ++ [c])) d) (d ^ n) := by
   rw [← h1,Nat.pow_succ]
   rfl
  rw [h2,sumD_append,← ih fun p => sumD d 1 fun s => f (p ++ s)]
  rfl
end Go.Proofs.YtldikghldcefcaaGreat
end
section
open Go.RowKit
set_option linter.unusedVariables false
set_option linter.unusedSimpArgs false
namespace Go.Proofs.YtldikghldcefcaaGreat
def hitsL (a b : List Int) : Nat := (a.map fun x => b.count x).sum
theorem hitsL_take {a b : List Int} {i : Nat} (h : i < a.length) : hitsL (a.take (i + 1)) b = hitsL (a.take i) b + b.count a[i] := by
 unfold hitsL
 rw [List.take_succ_eq_append_getElem h,List.map_append,List.sum_append]
 simp
theorem count_take {x : Int} {b : List Int} {j : Nat} (h : j < b.length) : (b.take (j + 1)).count x = (b.take j).count x + if b[j] = x then 1 else 0 := by
 rw [List.take_succ_eq_append_getElem h,List.count_append,List.count_singleton]
 by_cases e : b[j] = x <;> simp [e]
set_option maxHeartbeats 4000000 in
set_option maxRecDepth 100000 in
theorem hits35_any (u v : Value) (a b : List Int) (w : World) (ha : Rd I64 w u a) (hb : Rd I64 w v b) (la : a.length ≤ 1000) (lb : b.length ≤ 1000) :
  Calls Tryz.prog 58 #[u,v] w (Pure (.int .i64 (hitsL a b : Int)) w) := by
 obtain ⟨ao,ac,rfl,-,-,hra⟩ := Rd.form ha
 obtain ⟨bo,bc,rfl,-,-,hrb⟩ := Rd.form hb
 obtain ⟨n,hn⟩ : ∃ n,n = a.length := ⟨_,rfl⟩
 obtain ⟨m,hm⟩ : ∃ m,m = b.length := ⟨_,rfl⟩
 obtain ⟨R,hR⟩ : ∃ R,R = hitsL a b := ⟨_,rfl⟩
 rw [← hR,← hn,← hm]
 rw [← hn] at la
 rw [← hm] at lb
 replace hn := hide hn
 replace hm := hide hm
 replace hR := hide hR
 clear ha hb
 go_enter Tryz.func58,Tryz.ntmps58
 go_wp2
 go_loopg [5,12] n (fun gh t5 t wr => ∃ (i c : Nat),gh = n - i ∧ i ≤ n ∧ t = .int .i64 (i : Int) ∧ t5 = .int .i64 (c : Int) ∧ c ≤ i * 1000 ∧ Hid (c = hitsL (a.take i) b) ∧ w = wr)
 case atStart => exact ⟨0,0,rfl,Nat.zero_le _,rfl,rfl,Nat.zero_le _,rfl,rfl⟩
 case round =>
  obtain ⟨i,c,hgh,hi,rfl,rfl,hci,hc,rfl⟩ := hrel
  replace hgh := hide hgh
  by_cases hlt : i < n
  ·have hlt2 := hide hlt
   have hil : i < a.length := by rw [← hn.out];exact hlt
   obtain ⟨a0,aoff,rfl,haa0,hcella⟩ := hra.at_ hil
   obtain ⟨x,hx,c0⟩ : ∃ x,x = a[i] ∧ w.cell? ⟨a0,aoff + i,none⟩ = some (.int .i64 x) := ⟨_,rfl,hcella _ hil⟩
   have hct := hitsL_take (b := b) hil
   rw [← hx,← hc.out] at hct
   replace hct := hide hct
   replace hx := hide hx
   replace hcella := hide hcella
   have i1 : (0 : Int) ≤ (i : Int) := by omega
   have i2 : (i : Int) < (n : Int) := by omega
   go_wp2
   go_loopg [5,18] m (fun gh t5 t wr => ∃ (j k : Nat),gh = m - j ∧ j ≤ m ∧ t = .int .i64 (j : Int) ∧ t5 = .int .i64 ((c + k : Nat) : Int) ∧ k ≤ j ∧ Hid (k = (b.take j).count x) ∧ w = wr)
   case atStart => exact ⟨0,0,rfl,Nat.zero_le _,rfl,rfl,Nat.le_refl _,rfl,rfl⟩
   case round =>
    obtain ⟨j,k,hgj,hj,rfl,rfl,hkj,hk,rfl⟩ := hrel
    replace hgj := hide hgj
    by_cases hlj : j < m
    ·have hlj2 := hide hlj
     have hjl : j < b.length := by rw [← hm.out];exact hlj
     obtain ⟨b0,boff,rfl,hbb0,hcellb⟩ := hrb.at_ hjl
     obtain ⟨y,hy,c1⟩ : ∃ y,y = b[j] ∧ w.cell? ⟨b0,boff + j,none⟩ = some (.int .i64 y) := ⟨_,rfl,hcellb _ hjl⟩
     have hkt := count_take (x := x) hjl
     rw [← hy,← hk.out] at hkt
     replace hy := hide hy
     replace hcellb := hide hcellb
     have j1 : (0 : Int) ≤ (j : Int) := by omega
     have j2 : (j : Int) < (m : Int) := by omega
     by_cases hxy : x = y
     ·have hxb : (x == y) = true := by simpa using hxy
      rw [if_pos hxy.symm] at hkt
      replace hkt := hide hkt.symm
      replace hxy := hide hxy
      have c9 : k + 1 ≤ j + 1 := by omega
      go_wp2
      go_roundg (m - (j + 1))
      case measure => have := hgj.out;have := hlj2.out;omega
      case rel => exact ⟨j + 1,k + 1,rfl,by have := hlj2.out;omega,by go_num,by go_num,c9,hkt,rfl⟩
     ·have hxb : (x == y) = false := by simpa using hxy
      rw [if_neg (fun h => hxy h.symm)] at hkt
      replace hkt := hide hkt.symm
      replace hxy := hide hxy
      have c9 : k ≤ j + 1 := by omega
      go_wp2
      go_roundg (m - (j + 1))
      case measure => have := hgj.out;have := hlj2.out;omega
      case rel => exact ⟨j + 1,k,rfl,by have := hlj2.out;omega,by go_num,rfl,c9,hkt,rfl⟩
    ·obtain rfl : j = m := by omega
     have e1 : k = b.count x := by rw [hk.out,hm.out,List.take_length]
     have e2 : Hid (c + k = hitsL (a.take (i + 1)) b) := by show _ = _;rw [hct.out,e1]
     have c9 : c + k ≤ (i + 1) * 1000 := by omega
     clear e1
     go_wp2
     go_roundg (n - (i + 1))
     case measure => have := hgh.out;have := hlt2.out;omega
     case rel => exact ⟨i + 1,c + k,rfl,by have := hlt2.out;omega,by go_num,rfl,c9,e2,rfl⟩
  ·obtain rfl : i = n := by omega
   have e1 : c = R := by rw [hc.out,hR.out,hn.out,List.take_length]
   subst e1
   go_wp2
   go_ret
   exact ⟨rfl,rfl⟩
def boxL (a b : List Int) : Bool := a.all fun x => a.count x == b.count x
set_option maxHeartbeats 4000000 in
set_option maxRecDepth 100000 in
theorem box35_any (u v : Value) (a b : List Int) (w : World) (ha : Rd I64 w u a) (hb : Rd I64 w v b) (la : a.length ≤ 1000) (lb : b.length ≤ 1000) :
  Calls Tryz.prog 89 #[u,v] w (BoolB (boxL a b) w) := by
 have haa := hide ha
 have hbb := hide hb
 obtain ⟨ao,ac,rfl,-,-,hra⟩ := Rd.form ha
 obtain ⟨bo,bc,rfl,-,-,-⟩ := Rd.form hb
 obtain ⟨n,hn⟩ : ∃ n,n = a.length := ⟨_,rfl⟩
 obtain ⟨m,hm⟩ : ∃ m,m = b.length := ⟨_,rfl⟩
 rw [← hn] at haa ⊢
 rw [← hm] at hbb ⊢
 have cH1 := hide (fun x u X (h1 : Rd I64 X u [x]) (h2 : Rd I64 X (.slice ao n ac) a) => hits35_any _ _ [x] a X h1 h2 (by simp) la)
 have cH2 := hide (fun x u X (h1 : Rd I64 X u [x]) (h2 : Rd I64 X (.slice bo m bc) b) => hits35_any _ _ [x] b X h1 h2 (by simp) lb)
 obtain ⟨R,hR⟩ : ∃ R,R = boxL a b := ⟨_,rfl⟩
 rw [← hR]
 rw [← hn] at la
 replace hn := hide hn
 replace hR := hide hR
 clear ha hb hm lb
 go_enter Tryz.func89,Tryz.ntmps89
 go_wp2
 go_loopg [9] n (fun gh t wr => ∃ (i : Nat),gh = n - i ∧ i ≤ n ∧ t = .int .i64 (i : Int) ∧ Hid (boxL a b = (a.drop i).all fun x => a.count x == b.count x) ∧ Below w.heap.size w wr)
 case atStart => exact ⟨0,rfl,Nat.zero_le _,rfl,rfl,Below.refl _ _⟩
 case round =>
  obtain ⟨i,hgh,hi,rfl,hc,bel⟩ := hrel
  replace hgh := hide hgh
  by_cases hlt : i < n
  ·have hlt2 := hide hlt
   have hil : i < a.length := by rw [← hn.out];exact hlt
   have hra2 := Rd.below haa.out bel
   have i1 : (0 : Int) ≤ (i : Int) := by omega
   have i2 : (i : Int) < (n : Int) := by omega
   obtain ⟨a0,aoff,rfl,haa0,hcella⟩ := hra.at_ hil
   obtain ⟨x,hx,c0⟩ : ∃ x,x = a[i] ∧ w.cell? ⟨a0,aoff + i,none⟩ = some (.int .i64 x) := ⟨_,rfl,hcella _ hil⟩
   replace c0 := Bel.cellOf bel c0
   replace hx := hide hx
   replace hcella := hide hcella
   have hcx := hc.out
   rw [List.drop_eq_getElem_cons hil,List.all_cons,← hx.out] at hcx
   have y1 : hitsL [x] a = a.count x := by simp [hitsL]
   have y2 : hitsL [x] b = b.count x := by simp [hitsL]
   obtain ⟨ca,hca⟩ : ∃ k,k = a.count x := ⟨_,rfl⟩
   obtain ⟨cb,hcb⟩ : ∃ k,k = b.count x := ⟨_,rfl⟩
   rw [← hca] at y1
   rw [← hcb] at y2
   rw [← hca,← hcb] at hcx
   have d1 := hide (fun u X h1 h2 => cH1.out x u X h1 h2)
   have d2 := hide (fun u X h1 h2 => cH2.out x u X h1 h2)
   rw [y1] at d1
   rw [y2] at d2
   replace hcx := hide hcx
   clear y1 y2 hca hcb cH1 cH2 hc
   go_wp2_with fail
   have k1 : Rd I64 (wr.alloc (.cells #[.int .i64 x] 3)) (.slice (some ⟨wr.heap.size,0,none⟩) 1 1) [x] := Rd.new [x] rfl rfl (by omega) (by omega) rfl
   have b1 : Below wr.heap.size wr (wr.alloc (.cells #[.int .i64 x] 3)) := Bel.al (Below.refl _ _) _
   refine (d1.out _ _ k1 (Rd.below hra2 b1)).mono ?_
   rintro e w1 ⟨rfl,rfl⟩
   replace bel := Bel.to bel b1
   clear b1 k1
   obtain ⟨w2,hw2⟩ : ∃ X,X = wr.alloc (.cells #[.int .i64 x] 3) := ⟨_,rfl⟩
   rw [← hw2] at bel ⊢
   clear hw2
   go_wp2_with fail
   have k1 : Rd I64 (w2.alloc (.cells #[.int .i64 x] 3)) (.slice (some ⟨w2.heap.size,0,none⟩) 1 1) [x] := Rd.new [x] rfl rfl (by omega) (by omega) rfl
   have b1 : Below w2.heap.size w2 (w2.alloc (.cells #[.int .i64 x] 3)) := Bel.al (Below.refl _ _) _
   refine (d2.out _ _ k1 (Rd.below (Rd.below hbb.out bel) b1)).mono ?_
   rintro e w3 ⟨rfl,rfl⟩
   replace bel := Bel.to bel b1
   clear b1 k1
   obtain ⟨w3,hw3⟩ : ∃ X,X = w2.alloc (.cells #[.int .i64 x] 3) := ⟨_,rfl⟩
   rw [← hw3] at bel ⊢
   clear hw3 c0 hra2
   by_cases hxy : ca = cb
   ·subst hxy
    have hc2 : Hid (boxL a b = (a.drop (i + 1)).all fun x => a.count x == b.count x) := by show _ = _;rw [hcx.out];simp
    have e1 : ((ca : Int) != (ca : Int)) = false := by simp
    clear hcx
    go_wp2
    go_roundg (n - (i + 1))
    case measure => have := hgh.out;have := hlt2.out;omega
    case rel => exact ⟨i + 1,rfl,by have := hlt2.out;omega,by go_num,hc2,bel⟩
   ·have e1 : ((ca : Int) != (cb : Int)) = true := by simp;omega
    have e2 : false = R := by rw [hR.out,hcx.out];simp [hxy]
    subst e2
    clear hcx
    go_wp2
    go_ret
    exact ⟨rfl,bel⟩
  ·obtain rfl : i = n := by omega
   have e1 : true = R := by rw [hR.out,hc.out,hn.out,List.drop_length];rfl
   subst e1
   go_wp2
   go_ret
   exact ⟨rfl,bel⟩
end Go.Proofs.YtldikghldcefcaaGreat
end
section
set_option linter.unusedVariables false
set_option linter.unusedSimpArgs false
namespace Go.Proofs.YtldikghldcefcaaGreat
def placesX (R L : List Int) (p : List Int) : Nat := (p.map fun v => L.count (R.getD (v - 1).toNat 0)).sum
def sB (g : GameD) (t : Int) (LB : List Int) (m x : Nat) (n : Nat) : Nat := sumTo (fun k => if wonC g m x (hitsL LB (unrankL g.bonusOf.toNat 1 k g.bonus.toNat) : Nat) = t then 1 else 0) n
def sX (g : GameD) (t : Int) (L LB : List Int) (m : Nat) (R : List Int) (n : Nat) : Nat := sumTo (fun j => sB g t LB m (placesX R L (unrankL (g.of - g.main).toNat 1 j g.extra.toNat)) (choose g.bonusOf.toNat g.bonus.toNat)) n
def sM (g : GameD) (t : Int) (L LB : List Int) (n : Nat) : Nat := sumTo (fun i => sX g t L LB (hitsL L (unrankL g.of.toNat 1 i g.main.toNat)) (restL (unrankL g.of.toNat 1 i g.main.toNat) g.of.toNat) (choose (g.of - g.main).toNat g.extra.toNat)) n
theorem placesX_countP {R L : List Int} (hn : L.Nodup) (p : List Int) : placesX R L p = p.countP fun v => decide (R.getD (v - 1).toNat 0 ∈ L) := by
 unfold placesX
 induction p with
 | nil => rfl
 | cons v t ih =>
  rw [List.map_cons,List.sum_cons,ih,nodup_count hn,List.countP_cons]
  by_cases h : R.getD (v - 1).toNat 0 ∈ L
  ·rw [if_pos h,if_pos (decide_eq_true h)];omega
  ·rw [if_neg h,if_neg (by simpa using h)];omega
theorem sB_sum (g : GameD) (t : Int) {LB : List Int} (hn : LB.Nodup) (m x : Nat) (hl : ∀ v ∈ LB,1 ≤ v ∧ v ≤ (g.bonusOf.toNat : Int)) (hb : LB.length = g.bonus.toNat) :
  sB g t LB m x (choose g.bonusOf.toNat g.bonus.toNat) = sumTo (fun b => choose g.bonus.toNat b * cc (g.bonusOf.toNat - g.bonus.toNat) g.bonus.toNat b * (if wonC g m x (b : Nat) = t then 1 else 0)) (g.bonus.toNat + 1) := by
 have h := comb_sum (fun y => decide (y ∈ LB)) g.bonusOf.toNat 1 g.bonus.toNat (fun b => if wonC g m x (b : Nat) = t then 1 else 0)
 rw [set_size hn hl,hb] at h
 rw [← h]
 unfold sB
 refine sumTo_congr fun k _ => ?_
 unfold hitsL
 rw [hits_countP hn]
theorem sX_sum (g : GameD) (t : Int) {L LB U : List Int} (hF : ChoF g) (hn : L.Nodup) (hl : ∀ v ∈ L,1 ≤ v ∧ v ≤ (g.of.toNat : Int)) (hL : L.length = g.main.toNat) (hU : U.Nodup) (hu : ∀ v ∈ U,1 ≤ v ∧ v ≤ (g.of.toNat : Int)) (hUl : U.length = g.main.toNat) (m : Nat) (hm : U.countP (fun x => decide (x ∈ L)) = m) :
  sX g t L LB m (restL U g.of.toNat) (choose (g.of - g.main).toNat g.extra.toNat) = sumTo (fun x => choose (g.main.toNat - m) x * cc ((g.of - g.main).toNat - (g.main.toNat - m)) g.extra.toNat x * sB g t LB m x (choose g.bonusOf.toNat g.bonus.toNat)) (g.extra.toNat + 1) := by
 have c1 := hF.m1
 have c2 := hF.o1
 have h1 := rest_hits hU hu hn hl
 rw [hm,hL] at h1
 have h2 := rest_count hU hu
 rw [hUl] at h2
 have h3 := places_countP (restL U g.of.toNat) (fun y => decide (y ∈ L)) 1 (Nat.le_refl 1)
 rw [h2,show g.of.toNat - g.main.toNat = (g.of - g.main).toNat by omega] at h3
 have h := comb_sum (fun v => decide ((restL U g.of.toNat).getD (v - ((1 : Nat) : Int)).toNat 0 ∈ L)) (g.of - g.main).toNat 1 g.extra.toNat (fun x => sB g t LB m x (choose g.bonusOf.toNat g.bonus.toNat))
 rw [h3,show (restL U g.of.toNat).countP (fun y => decide (y ∈ L)) = g.main.toNat - m by omega] at h
 rw [← h]
 unfold sX
 refine sumTo_congr fun j _ => ?_
 rw [placesX_countP hn]
 rfl
theorem chosen_law {g : GameD} (t : Int) {L LB : List Int} (hF : ChoF g) (hn : L.Nodup) (hl : ∀ v ∈ L,1 ≤ v ∧ v ≤ (g.of.toNat : Int)) (hL : L.length = g.main.toNat) (hnB : LB.Nodup) (hlB : ∀ v ∈ LB,1 ≤ v ∧ v ≤ (g.bonusOf.toNat : Int)) (hLB : LB.length = g.bonus.toNat) :
  sM g t L LB (choose g.of.toNat g.main.toNat) = winC g t := by
 have c1 := hF.m1
 have c2 := hF.o1
 have c3 := hF.b1
 have c4 := hF.p1
 have c5 := hF.e1
 have h := comb_sum (fun x => decide (x ∈ L)) g.of.toNat 1 g.main.toNat (fun m => sumTo (fun x => choose (g.main.toNat - m) x * cc ((g.of - g.main).toNat - (g.main.toNat - m)) g.extra.toNat x * sB g t LB m x (choose g.bonusOf.toNat g.bonus.toNat)) (g.extra.toNat + 1))
 rw [set_size hn hl,hL] at h
 have e : sM g t L LB (choose g.of.toNat g.main.toNat) = sumTo (fun r => (fun m => sumTo (fun x => choose (g.main.toNat - m) x * cc ((g.of - g.main).toNat - (g.main.toNat - m)) g.extra.toNat x * sB g t LB m x (choose g.bonusOf.toNat g.bonus.toNat)) (g.extra.toNat + 1)) ((unrankL g.of.toNat 1 r g.main.toNat).countP fun x => decide (x ∈ L))) (choose g.of.toNat g.main.toNat) := by
  unfold sM
  refine sumTo_congr fun r hr => ?_
  obtain ⟨k1,k2⟩ := unrankL_nodup (w := 1) hr
  have e9 : hitsL L (unrankL g.of.toNat 1 r g.main.toNat) = (unrankL g.of.toNat 1 r g.main.toNat).countP fun x => decide (x ∈ L) := by
   unfold hitsL;exact hits_countP hn _
  rw [e9,sX_sum g t (LB := LB) hF hn hl hL k1 (fun v hv => by have := k2 v hv;omega) (unrankL_len hr) _ rfl]
 rw [e,h]
 unfold winC
 refine sumTo_congr fun m hm => ?_
 unfold winF
 rw [← sumTo_mul]
 refine sumTo_congr fun x hx => ?_
 unfold winG
 rw [sB_sum g t hnB m x hlB hLB,← Nat.mul_assoc,← sumTo_mul]
 refine sumTo_congr fun b hb => ?_
 unfold winH
 by_cases hw : wonC g m x (b : Nat) = t
 ·rw [if_pos hw,if_pos hw,Nat.mul_one]
  obtain ⟨M,hM⟩ : ∃ M,M = g.main.toNat := ⟨_,rfl⟩
  obtain ⟨O,hO⟩ : ∃ M,M = g.of.toNat := ⟨_,rfl⟩
  obtain ⟨E,hE⟩ : ∃ M,M = g.extra.toNat := ⟨_,rfl⟩
  obtain ⟨B,hB⟩ : ∃ M,M = g.bonus.toNat := ⟨_,rfl⟩
  obtain ⟨P,hP⟩ : ∃ M,M = g.bonusOf.toNat := ⟨_,rfl⟩
  have hM2 : g.main = (M : Int) := by omega
  have hO2 : g.of = (O : Int) := by omega
  have hE2 : g.extra = (E : Int) := by omega
  have hB2 : g.bonus = (B : Int) := by omega
  have hP2 : g.bonusOf = (P : Int) := by omega
  unfold wayN wayP
  rw [← hM,← hO,← hE,← hB,← hP,hM2,hO2,hE2,hB2,hP2]
  rw [← hM] at hm
  rw [← hE] at hx
  rw [← hB] at hb
  rw [hM2,hO2] at c2
  rw [hB2,hP2] at c4
  simp only [List.map_cons,List.map_nil,prodL,Nat.mul_one]
  have a1 : chP ((M : Int),(m : Int)) = choose M m := chP_nat _ _
  have a2 : chP ((O : Int) - (M : Int),(M : Int) - (m : Int)) = cc (O - M) M m := by
   unfold cc
   rw [if_pos (by omega),show (O : Int) - (M : Int) = ((O - M : Nat) : Int) by omega,show (M : Int) - (m : Int) = ((M - m : Nat) : Int) by omega,chP_nat]
  have a3 : chP ((M : Int) - (m : Int),(x : Int)) = choose (M - m) x := chP_sub _ (by omega)
  have a5 : chP ((B : Int),(b : Int)) = choose B b := chP_nat _ _
  have a6 : chP ((P : Int) - (B : Int),(B : Int) - (b : Int)) = cc (P - B) B b := by
   unfold cc
   rw [if_pos (by omega),show (P : Int) - (B : Int) = ((P - B : Nat) : Int) by omega,show (B : Int) - (b : Int) = ((B - b : Nat) : Int) by omega,chP_nat]
  rw [a1,a2,a3,a5,a6,show ((O : Int) - (M : Int)).toNat = O - M by omega]
  by_cases hz : 2 * M ≤ O + m
  ·have a4 : chP ((O : Int) - 2 * (M : Int) + (m : Int),(E : Int) - (x : Int)) = cc (O - M - (M - m)) E x := by
    unfold cc
    rw [if_pos (by omega),show (O : Int) - 2 * (M : Int) + (m : Int) = ((O - M - (M - m) : Nat) : Int) by omega,show (E : Int) - (x : Int) = ((E - x : Nat) : Int) by omega,chP_nat]
   rw [a4]
   simp only [Nat.mul_assoc]
  ·have a0 : cc (O - M) M m = 0 := by
    unfold cc
    rw [if_pos (by omega),choose_gt (by omega)]
   rw [a0]
   simp
 ·rw [if_neg hw,if_neg hw]
  simp only [Nat.mul_zero]
def segEq (a b : List Int) (f t : Nat) : Bool := decide ((a.take t).drop f = (b.take t).drop f)
def meetB (n : Nat) (t : TierD) (a b : List Int) : Bool :=
 if t.mode = 2 then boxL a b else if t.mode = 3 then segEq a b 0 t.main.toNat else if t.mode = 4 then segEq a b (n - t.main.toNat) n else segEq a b 0 n
def digI (d n x : Nat) : List Int := (digN d n x).map fun c : Nat => (c : Int)
theorem digI_len (d n x : Nat) : (digI d n x).length = n := by unfold digI;rw [List.length_map,digN_len]
def metI (g : GameD) (x y : Nat) : Nat := g.tiers.findIdx fun t => meetB g.main.toNat t (digI g.of.toNat g.main.toNat x) (digI g.of.toNat g.main.toNat y)
def sQ (g : GameD) (t : Nat) (x n : Nat) : Nat := sumTo (fun y => if metI g x y = t then 1 else 0) n
def sP (g : GameD) (t : Nat) (many n : Nat) : Nat := sumTo (fun x => sQ g t x many) n
theorem cast_inj {x y : List Nat} (h : (x.map fun c : Nat => (c : Int)) = y.map fun c : Nat => (c : Int)) : x = y := by
 have := congrArg (List.map Int.toNat) h
 simpa [List.map_map,Function.comp_def] using this
theorem box_perm {a b : List Int} (h : a.length = b.length) : boxL a b = true ↔ a.Perm b := by
 unfold boxL
 rw [List.all_eq_true]
 constructor
 ·intro hx
  have h1 : a.Perm (b.filter fun x => decide (x ∈ a)) := by
   refine List.perm_iff_count.2 fun x => ?_
   by_cases hm : x ∈ a
   ·rw [List.count_filter (by simpa using hm)]
    simpa using hx x hm
   ·rw [List.count_eq_zero.2 hm]
    symm
    rw [List.count_eq_zero]
    intro k
    exact hm (by simpa using (List.mem_filter.1 k).2)
  have h2 : (b.filter fun x => decide (x ∈ a)) = b := by
   rw [List.filter_eq_self]
   exact List.length_filter_eq_length_iff.1 (by rw [← h1.length_eq,h])
  rwa [h2] at h1
 ·intro hp x _
  simpa using hp.count_eq x
theorem perm_cast {x y : List Nat} : (x.map fun c : Nat => (c : Int)).Perm (y.map fun c : Nat => (c : Int)) ↔ x.Perm y := by
 constructor
 ·intro h
  have := h.map Int.toNat
  simpa [List.map_map,Function.comp_def] using this
 ·exact fun h => h.map _
theorem seg_cast {x y : List Nat} (f t : Nat) : segEq (x.map fun c : Nat => (c : Int)) (y.map fun c : Nat => (c : Int)) f t = decide ((x.take t).drop f = (y.take t).drop f) := by
 unfold segEq
 rw [← List.map_take,← List.map_take,← List.map_drop,← List.map_drop]
 exact decide_eq_decide.2 ⟨cast_inj,fun h => by rw [h]⟩
theorem meet_cond {g : GameD} {t : TierD} (h1 : 1 ≤ g.main.toNat) (ht : (t.mode = 1 ∧ t.main = 0) ∨ (t.mode = 2 ∧ t.main = 0) ∨ (t.mode = 3 ∧ 1 ≤ t.main ∧ t.main ≤ g.main) ∨ (t.mode = 4 ∧ 1 ≤ t.main ∧ t.main ≤ g.main)) {x y : List Nat} (hx : x.length = g.main.toNat) (hy : y.length = g.main.toNat) :
  meetB g.main.toNat t (x.map fun c : Nat => (c : Int)) (y.map fun c : Nat => (c : Int)) = decide (meets g.main.toNat (condOf g.main.toNat t) x y) := by
 obtain ⟨n,hn⟩ : ∃ n,n = g.main.toNat := ⟨_,rfl⟩
 rw [← hn] at h1 hx hy ⊢
 have d0 : x.drop n = y.drop n := by rw [List.drop_eq_nil_of_le (by omega),List.drop_eq_nil_of_le (by omega)]
 have tx : x.take n = x := List.take_of_length_le (by omega)
 have ty : y.take n = y := List.take_of_length_le (by omega)
 unfold meetB condOf meets
 rcases ht with ⟨h,_⟩ | ⟨h,_⟩ | ⟨h,h2,h3⟩ | ⟨h,h2,h3⟩
 ·rw [h,if_neg (by decide),if_neg (by decide),if_neg (by decide),if_pos rfl,seg_cast]
  refine decide_eq_decide.2 ?_
  simp [tx,ty,d0]
 ·rw [h,if_pos rfl,if_neg (by decide),if_pos rfl]
  by_cases hp : x.Perm y
  ·rw [decide_eq_true (by simp [d0,hp]),(box_perm (by simp [hx,hy])).2 (perm_cast.2 hp)]
  ·rw [decide_eq_false (by simp [hp])]
   apply Bool.eq_false_iff.2
   intro hb
   exact hp (perm_cast.1 ((box_perm (by simp [hx,hy])).1 hb))
 ·rw [h,if_neg (by decide),if_pos rfl,if_neg (by decide),if_neg (by decide),if_pos rfl,seg_cast]
  refine decide_eq_decide.2 ?_
  simp [d0]
 ·rw [h,if_neg (by decide),if_neg (by decide),if_pos rfl,if_neg (by decide),if_neg (by decide),if_neg (by decide),seg_cast]
  refine decide_eq_decide.2 ?_
  simp [tx,ty]
theorem paired_law {g : GameD} (he : gameE g = 0) (hk : g.kind = 2) (t : Nat) : sP g t (g.of.toNat ^ g.main.toNat) (g.of.toNat ^ g.main.toNat) = win2 g.of.toNat g.main.toNat (condsG g) t := by
 have hmf := mat_facts (game_mat he)
 have hd : 0 < g.of.toNat := by have := hmf.2.2.2.2.2.2.1 hk;omega
 have h1 : 1 ≤ g.main.toNat := by omega
 unfold sP sQ win2 cnt2
 have e1 : ∀ x,sumTo (fun y => if metI g x y = t then 1 else 0) (g.of.toNat ^ g.main.toNat) = sumD g.of.toNat g.main.toNat fun y => if (g.tiers.findIdx fun t => meetB g.main.toNat t (digI g.of.toNat g.main.toNat x) (y.map fun c : Nat => (c : Int))) = t then 1 else 0 := by
  intro x
  rw [← digN_sum hd]
  rfl
 rw [sumTo_congr fun x _ => e1 x]
 rw [← digN_sum hd]
 refine sumTo_congr fun x _ => ?_
 refine sumD_congr fun y hy _ => ?_
 have e2 : (g.tiers.findIdx fun t => meetB g.main.toNat t (digI g.of.toNat g.main.toNat x) (y.map fun c : Nat => (c : Int))) = (condsG g).findIdx fun c => decide (meets g.main.toNat c (digN g.of.toNat g.main.toNat x) y) := by
  have key : ∀ l : List TierD,(∀ t ∈ l,t ∈ g.tiers) → (l.findIdx fun t => meetB g.main.toNat t (digI g.of.toNat g.main.toNat x) (y.map fun c : Nat => (c : Int))) = (l.map (condOf g.main.toNat)).findIdx fun c => decide (meets g.main.toNat c (digN g.of.toNat g.main.toNat x) y) := by
   intro l
   induction l with
   | nil => intro _;rfl
   | cons a r ih =>
    intro hl
    rw [List.map_cons,List.findIdx_cons,List.findIdx_cons,ih fun t ht => hl t (List.mem_cons_of_mem _ ht)]
    unfold digI
    rw [meet_cond h1 (dig_tier he hk (hl a List.mem_cons_self)) (digN_len _ _ _) hy]
  exact key g.tiers fun t ht => ht
 rw [e2]
end Go.Proofs.YtldikghldcefcaaGreat
end
section
open Go.RowKit
set_option linter.unusedVariables false
set_option linter.unusedSimpArgs false
namespace Go.Proofs.YtldikghldcefcaaGreat
def ListJ (l : List Int) (w : World) (e : Ending) (w' : World) : Prop := ∃ u,e = .returned u ∧ Rd I64 w' u l ∧ Below w.heap.size w w'
theorem digI_zero (d x : Nat) : digI d 0 x = [] := rfl
theorem digI_succ (d n x : Nat) : digI d (n + 1) x = digI d n (x / d) ++ [((x % d : Nat) : Int)] := by unfold digI;rw [digN,List.map_append];rfl
set_option maxHeartbeats 4000000 in
set_option maxRecDepth 100000 in
theorem digits35_any (x0 q n : Nat) (w : World) (hq : 1 ≤ q) (hq2 : q ≤ 1000) (hn : n ≤ 1000) (hx : x0 ≤ 10000000000) :
  Calls Tryz.prog 51 #[.int .i64 (x0 : Int),.int .i64 (q : Int),.int .i64 (n : Int)] w (ListJ (digI q n x0) w) := by
 obtain ⟨P,hP⟩ : ∃ P,P = digI q n x0 := ⟨_,rfl⟩
 rw [← hP]
 have hPl : P.length = n := by rw [hP,digI_len]
 replace hP := hide hP
 go_enter Tryz.func51,Tryz.ntmps51
 go_wp2_with (with_reducible refine wpList_make_row _ rfl _ _ 53 rfl 3 (.int .i64 0) 8 Tryz.underlying53 infoInt rfl .i64 .i64 _ _ n n rfl rfl rfl rfl (Nat.le_refl _) (by omega) (by omega) ?_;intro w2 hrow hb2 hz2)
 have hrow0 : Row w2 w.heap.size 3 ((List.replicate n (0 : Int) ++ []).map I64) := by
  rw [List.append_nil,List.map_replicate];exact hrow
 obtain ⟨gb,hgb⟩ : ∃ gb,gb = w.heap.size := ⟨_,rfl⟩
 rw [← hgb] at hrow0 ⊢
 have hgw : Hid (w.heap.size ≤ gb) := by show _ ≤ _;omega
 have hB0 := hide hb2
 have hD0 : Hid (digI q n x0 ++ ([] : List Int) = P) := by show _ = _;rw [List.append_nil,hP.out]
 replace hPl := hide hPl
 clear hrow hb2 hz2 hgb hP
 go_wp2
 go_loopg [0,8] (n + 1) (fun gh rr t wr => ∃ (k R : Nat) (D : List Int) (x : Int),gh = k + 1 ∧ k ≤ n ∧ rr = .int .i64 (R : Int) ∧ t = .int .i64 x ∧ R ≤ 10000000000 ∧ Hid (Below w.heap.size w wr) ∧ Row wr gb 3 ((List.replicate k (0 : Int) ++ D).map I64) ∧ Hid (x = (k : Int) - 1) ∧ Hid (digI q k R ++ D = P))
 case atStart => exact ⟨n,x0,[],(n : Int) - 1,rfl,Nat.le_refl _,rfl,by first | rfl | go_num,hx,hB0,hrow0,rfl,hD0⟩
 case round =>
  clear hB0 hrow0 hD0
  obtain ⟨k,R,D,x,hg,hkn,rfl,rfl,hR,hB,hrow,hx,hD⟩ := hrel
  replace hg := hide hg
  cases k with
  | zero =>
   have hx0 : x = -1 := by have := hx.out;omega
   subst hx0
   have hD9 : D = P := by have := hD.out;rw [digI_zero,List.nil_append] at this;exact this
   subst hD9
   have hrd : Rd I64 wr (.slice (some ⟨gb,0,none⟩) n n) D := by
    rw [List.replicate_zero,List.nil_append] at hrow
    exact hrow.rdAll (by rw [hPl.out]) (Nat.le_refl _) (by omega)
   clear hD hrow
   go_wp2
   go_ret
   exact ⟨_,rfl,hrd,hB.out⟩
  | succ j =>
   have hxj : x = (j : Int) := by have := hx.out;omega
   subst hxj
   have hD1 : digI q j (R / q) ++ (((R % q : Nat) : Int) :: D) = P := by
    have := hD.out;rw [digI_succ,List.append_assoc] at this;exact this
   have hset : (List.replicate (j + 1) (0 : Int) ++ D).set j ((R % q : Nat) : Int) = List.replicate j 0 ++ (((R % q : Nat) : Int) :: D) := by
    rw [List.replicate_succ',List.append_assoc,List.set_append_right _ _ (by simp)]
    simp
   have hrow2 := hrow.setV j (((R % q : Nat) : Int))
   rw [hset] at hrow2
   have hB2 : Hid (Below w.heap.size w (wr.setCell ⟨gb,j,none⟩ (I64 ((R % q : Nat) : Int)))) := Bel.st hB.out (p := ⟨gb,j,none⟩) hgw.out _
   have hlen : ((List.replicate (j + 1) (0 : Int) ++ D).map I64).length = n := by
    have := congrArg List.length hD.out
    rw [List.length_append,digI_len,hPl.out] at this
    rw [List.length_map,List.length_append,List.length_replicate];exact this
   have ce := Row.cell hrow (i := j) (by omega)
   have cf := Row.frozen hrow j
   have j1 : (0 : Int) ≤ (j : Int) := by omega
   have j2 : (j : Int) < (n : Int) := by omega
   have m1 : (R : Int) % (q : Int) = ((R % q : Nat) : Int) := by simp
   have m2 : (R : Int) / (q : Int) = ((R / q : Nat) : Int) := by simp
   have m3 : R / q ≤ 10000000000 := Nat.le_trans (Nat.div_le_self _ _) hR
   obtain ⟨R2,hR2⟩ : ∃ R2,R2 = R / q := ⟨_,rfl⟩
   rw [← hR2] at m2 m3 hD1
   have q0 : ((q : Int) == 0) = false := by simp;omega
   have q1 : (q : Int) ≠ 0 := by omega
   rw [show I64 ((R % q : Nat) : Int) = .int .i64 ((R : Int) % (q : Int)) by rw [m1]] at hrow2 hB2
   replace m1 := hide m1
   replace m2 := hide m2
   replace hR2 := hide hR2
   replace m3 := hide m3
   replace hD1 := hide hD1
   replace hset := hide hset
   replace hlen := hide hlen
   replace hD := hide hD
   go_wp2
   go_roundg (j + 1)
   case measure => have := hg.out;omega
   case rel => exact ⟨j,R2,_ :: D,(j : Int) - 1,rfl,by omega,by rw [m2.out];first | rfl | (rw [IntWalk.wrap64_in _ (by have := m3.out;omega)]),rfl,m3.out,hB2,hrow2,rfl,hD1⟩
theorem rngI_snoc (w m : Nat) : rngI w (m + 1) = rngI w m ++ [((w + m : Nat) : Int)] := by
 induction m generalizing w with
 | zero => rfl
 | succ m ih =>
  rw [rngI,ih (w + 1),rngI,List.cons_append,show w + 1 + m = w + (m + 1) by omega]
theorem restL_succ (l : List Int) (m : Nat) : restL l (m + 1) = restL l m ++ if l.count ((m + 1 : Nat) : Int) = 0 then [((m + 1 : Nat) : Int)] else [] := by
 unfold restL
 rw [rngI_snoc,List.filter_append,show 1 + m = m + 1 by omega]
 congr 1
 by_cases h : l.count ((m + 1 : Nat) : Int) = 0
 ·rw [if_pos h,List.filter_cons_of_pos (by simpa using h)];rfl
 ·rw [if_neg h,List.filter_cons_of_neg (by simpa using h)];rfl
theorem restL_le (l : List Int) (m : Nat) : (restL l m).length ≤ m := by
 unfold restL
 have := List.length_filter_le (fun x => l.count x == 0) (rngI 1 m)
 rwa [rngI_len] at this
set_option maxHeartbeats 4000000 in
set_option maxRecDepth 100000 in
theorem without35_any (v : Value) (l : List Int) (n : Nat) (w : World) (hl : Rd I64 w v l) (ll : l.length ≤ 1000) (hn : n ≤ 1000) :
  Calls Tryz.prog 57 #[v,.int .i64 (n : Int)] w (ListJ (restL l n) w) := by
 have cH := hide (fun x u X (hX : Below w.heap.size w X) (h1 : Rd I64 X u [x]) => hits35_any _ _ [x] l X h1 (Rd.below hl hX) (by simp) ll)
 obtain ⟨ao,ac,rfl,-,-,-⟩ := Rd.form hl
 obtain ⟨m,hm⟩ : ∃ m,m = l.length := ⟨_,rfl⟩
 rw [← hm] at cH ⊢
 clear hl hm ll
 have hn1 : (n : Int) ≤ 1000 := by omega
 obtain ⟨R,hR⟩ : ∃ R,R = restL l n := ⟨_,rfl⟩
 rw [← hR]
 replace hR := hide hR
 have hown0 : Own I64 w w.heap.size 3 (.slice none 0 0) [] := Own.nil _ _ _
 go_enter Tryz.func57,Tryz.ntmps57
 go_wp2
 go_loopg [5,6] n (fun gh vv t wr => ∃ (i : Nat) (A : List Int) (ao : Option Addr) (cap : Nat),gh = n - i ∧ i ≤ n ∧ t = .int .i64 ((i + 1 : Nat) : Int) ∧ vv = .slice ao A.length cap ∧ Hid (A = restL l i) ∧ Own I64 wr w.heap.size 3 (.slice ao A.length cap) A ∧ Below w.heap.size w wr)
 case atStart => exact ⟨0,[],none,0,rfl,Nat.zero_le _,rfl,rfl,rfl,hown0,Below.refl _ _⟩
 case round =>
  clear hown0
  obtain ⟨i,A,ao2,cap,hgh,hi,rfl,rfl,hA,hown,bel⟩ := hrel
  replace hgh := hide hgh
  have hAl : A.length ≤ 1000 := by have := restL_le l i;rw [← hA.out] at this;omega
  by_cases hlt : i < n
  ·have hlt2 := hide hlt
   have i2 : ((i + 1 : Nat) : Int) ≤ (n : Int) := by omega
   have hstep := restL_succ l i
   rw [← hA.out] at hstep
   obtain ⟨x,hx⟩ : ∃ x : Int,x = ((i + 1 : Nat) : Int) := ⟨_,rfl⟩
   have hx2 : Hid (x + 1 = ((i + 1 + 1 : Nat) : Int)) := by show _ = _;omega
   have x1 : 1 ≤ x := by omega
   have x2 : x ≤ (n : Int) := by omega
   rw [← hx] at hstep ⊢
   have y1 : hitsL [x] l = l.count x := by simp [hitsL]
   obtain ⟨c,hc⟩ : ∃ k,k = l.count x := ⟨_,rfl⟩
   rw [← hc] at y1 hstep
   have d1 := hide (fun u X hX h1 => cH.out x u X hX h1)
   rw [y1] at d1
   clear y1 hc hA i2 hx
   by_cases h0 : c = 0
   ·have hc0 : ((c : Int) == 0) = true := by simp;omega
    rw [if_pos h0] at hstep
    replace hstep := hide hstep
    replace h0 := hide h0
    go_wp2_with fail
    have k1 : Rd I64 (wr.alloc (.cells #[.int .i64 x] 3)) (.slice (some ⟨wr.heap.size,0,none⟩) 1 1) [x] := Rd.new [x] rfl rfl (by omega) (by omega) rfl
    have b1 : Below wr.heap.size wr (wr.alloc (.cells #[.int .i64 x] 3)) := Bel.al (Below.refl _ _) _
    refine (d1.out _ _ (Bel.to bel b1) k1).mono ?_
    rintro e w1 ⟨rfl,rfl⟩
    replace bel := Bel.to bel b1
    replace hown := hown.alloc (.cells #[.int .i64 x] 3)
    clear b1 k1
    obtain ⟨w2,hw2⟩ : ∃ X,X = wr.alloc (.cells #[.int .i64 x] 3) := ⟨_,rfl⟩
    rw [← hw2] at bel hown ⊢
    clear hw2 d1
    go_wp2_with (with_reducible refine wpList_append_rd _ rfl _ _ 53 rfl (V := I64) (fun _ => rfl) w.heap.size 3 (.int .i64 0) 8 Tryz.underlying53 infoInt rfl _ A rfl (hown.alloc _) _ [x] rfl ?_ ?_ ?_ ?_ ?_)
    case refine_1 => exact Rd.new _ rfl rfl (Nat.le_refl _) (by decide) rfl
    case refine_2 => simp;omega
    case refine_3 => simp;omega
    case refine_4 => have := bel.size;simp;omega
    intro v4 w4 hown4 hg4 hv4
    have hsz2 := bel.size
    have hb4 : Below w.heap.size w w4 := (Bel.al bel _).grown hg4 (by simp;omega) (fun g hg => (hown.lt g hg).1)
    obtain ⟨ao4,cap4,rfl⟩ := hown4.shape
    clear hown bel hg4 hv4 hsz2
    go_wp2
    go_roundg (n - (i + 1))
    case measure => have := hgh.out;have := hlt2.out;omega
    case rel => exact ⟨i + 1,A ++ [x],ao4,cap4,rfl,by have := hlt2.out;omega,by (have := hx2.out;go_num),rfl,hstep.out.symm,hown4,hb4⟩
   ·have hc0 : ((c : Int) == 0) = false := by simp;omega
    rw [if_neg h0,List.append_nil] at hstep
    replace hstep := hide hstep
    replace h0 := hide h0
    go_wp2_with fail
    have k1 : Rd I64 (wr.alloc (.cells #[.int .i64 x] 3)) (.slice (some ⟨wr.heap.size,0,none⟩) 1 1) [x] := Rd.new [x] rfl rfl (by omega) (by omega) rfl
    have b1 : Below wr.heap.size wr (wr.alloc (.cells #[.int .i64 x] 3)) := Bel.al (Below.refl _ _) _
    refine (d1.out _ _ (Bel.to bel b1) k1).mono ?_
    rintro e w1 ⟨rfl,rfl⟩
    replace bel := Bel.to bel b1
    replace hown := hown.alloc (.cells #[.int .i64 x] 3)
    clear b1 k1
    obtain ⟨w2,hw2⟩ : ∃ X,X = wr.alloc (.cells #[.int .i64 x] 3) := ⟨_,rfl⟩
    rw [← hw2] at bel hown ⊢
    clear hw2 d1
    go_wp2
    go_roundg (n - (i + 1))
    case measure => have := hgh.out;have := hlt2.out;omega
    case rel => exact ⟨i + 1,A,ao2,cap,rfl,by have := hlt2.out;omega,by (have := hx2.out;go_num),rfl,hstep.out.symm,hown,bel⟩
  ·obtain rfl : i = n := by omega
   have i2 : ¬ ((i + 1 : Nat) : Int) ≤ (i : Int) := by omega
   have e1 : A = R := by rw [hA.out,hR.out]
   subst e1
   have hrd := hown.rd
   clear hown
   go_wp2
   go_ret
   exact ⟨_,rfl,hrd,bel⟩
def ListCF (l : List Int) (c : Int) (w : World) (e : Ending) (w' : World) : Prop := ∃ u,e = .returned (.tuple #[u,.int .i64 c]) ∧ Rd I64 w' u l ∧ Fr w.heap.size u l ∧ Below w.heap.size w w'
set_option maxHeartbeats 2000000 in
set_option maxRecDepth 100000 in
theorem runrankF_ok (r n k : Nat) (w : World) (hn : n ≤ 80) (hk : k ≤ n) (hct : choose n k ≤ 9223372036854775807) (hr : r < choose n k) :
  Calls Tryz.prog 23 #[.int .i64 (r : Int),.int .i64 (n : Int),.int .i64 (k : Int)] w (ListCF (unrankL n 1 r k) 0 w) := by
 have hci0 := hide (countV_ok n k hn hct n k rfl rfl)
 have hrI : (r : Int) < ((choose n k : Nat) : Int) := by omega
 have hd0 : decide ((r : Int) < 0) = false := decide_eq_false (by omega)
 have hd1 : decide (choose n k ≤ r) = false := decide_eq_false (by omega)
 have hd2 : decide (((choose n k : Nat) : Int) ≤ (r : Int)) = false := decide_eq_false (by omega)
 go_enter Tryz.func23,Tryz.ntmps23
 go_wp2_with fail
 refine (in_yes _ _ _ (by omega) (by omega)).mono ?_
 rintro e w' ⟨rfl,rfl⟩
 go_wp2_with fail
 refine (in_yes _ _ _ (by omega) (by omega)).mono ?_
 rintro e w' ⟨rfl,rfl⟩
 go_wp2_with fail
 refine (rcount_any _ _ _).mono ?_
 rintro e w' ⟨rfl,rfl⟩
 rw [hci0.out]
 go_wp2
 have hown : Own I64 w w.heap.size 3 (.slice none 0 0) [] := Own.nil _ _ _
 have hstart := hide (show ([] : List Int) ++ unrankL n 1 r k = unrankL n 1 r k from rfl)
 clear hrI
 go_loopw [0,10,11] (fun rr vv ww wr => ∃ (A : List Int) (ao : Option Addr) (cap rv wv : Nat),vv = .slice ao A.length cap ∧ ww = .int .i64 wv ∧ rr = .int .i64 rv ∧ 1 ≤ wv ∧ wv ≤ n + 1 ∧ A.length ≤ k ∧ Own I64 wr w.heap.size 3 (.slice ao A.length cap) A ∧
   Below w.heap.size w wr ∧ Hid (A ++ unrankL (n + 1 - wv) wv rv (k - A.length) = unrankL n 1 r k) ∧ rv < choose (n + 1 - wv) (k - A.length) ∧ choose (n + 1 - wv) (k - A.length) ≤ choose n k) (fun _ _ ww _ => n + 1 - (intOf ww).toNat)
 case atStart =>
  refine ⟨[],none,0,r,1,rfl,rfl,rfl,Nat.le_refl _,by omega,Nat.zero_le _,hown,Below.refl _ _,?_,?_,?_⟩
  ·simpa using hstart
  ·simpa using hr
  ·simp
 case round =>
  obtain ⟨A,ao,cap,rv,wv,rfl,rfl,rfl,hw1,hw2,hAk,hown,hbel,hE,hlt,hle⟩ := hrel
  by_cases hAl : A.length < k
  ·obtain ⟨j,hj⟩ : ∃ j,k - A.length = j + 1 := ⟨k - A.length - 1,by omega⟩
   have hwn : wv ≤ n := by
    rcases Nat.lt_or_ge n wv with h | h
    ·rw [show n + 1 - wv = 0 by omega,hj,choose_gt (by omega)] at hlt;omega
    ·exact h
   obtain ⟨m,hm⟩ : ∃ m,n + 1 - wv = m + 1 := ⟨n - wv,by omega⟩
   have hE2 := hE.out
   rw [hm,hj] at hlt hle hE2
   obtain ⟨s1,s2⟩ := choose_mono_step m j
   have hsum := choose_succ m j
   rw [unrankL,if_neg (by omega),Nat.add_sub_cancel] at hE2
   obtain ⟨C,hC⟩ : ∃ C,C = choose m j := ⟨_,rfl⟩
   rw [← hC] at hE2 s1 hsum
   have hC5 : C ≤ 9223372036854775807 := by omega
   have hci := countV_ok m j (by omega) (by rw [← hC];exact hC5) ((n : Int) - wv) ((k : Int) - 1 - A.length) (by omega) (by omega)
   rw [← hC] at hci
   replace hci := hide hci
   by_cases hrc : rv < C
   ·rw [if_pos hrc] at hE2
    replace hE2 := hide hE2
    have hrI : (rv : Int) < (C : Int) := by omega
    have f1 : rv < choose m j := by omega
    have f2 : choose m j ≤ choose n k := by omega
    replace hC := hide hC
    replace hm := hide hm
    replace hj := hide hj
    clear hsum s1 s2 hlt hle hE
    go_wp2_with fail
    refine (rcount_any _ _ _).mono ?_
    rintro e w3 ⟨rfl,rfl⟩
    rw [hci.out]
    go_wp2_with (with_reducible refine wpList_append_rd _ rfl _ _ 53 rfl (V := I64) (fun _ => rfl) w.heap.size 3 (.int .i64 0) 8 Tryz.underlying53 infoInt rfl _ A rfl (hown.alloc _) _ [(wv : Int)] rfl ?_ ?_ ?_ ?_ ?_)
    case refine_1 => exact Rd.new _ rfl rfl (Nat.le_refl _) (by decide) rfl
    case refine_2 => simp;omega
    case refine_3 => simp;omega
    case refine_4 => have := hbel.size;simp;omega
    intro v4 w4 hown4 hg4 hv4
    have hsz2 := hbel.size
    have hb4 : Below w.heap.size w w4 := (Bel.al hbel _).grown hg4 (by simp;omega) (fun g hg => (hown.lt g hg).1)
    obtain ⟨ao4,cap4,rfl⟩ := hown4.shape
    go_wp2
    go_roundw
    case rel =>
     refine ⟨A ++ [(wv : Int)],ao4,cap4,rv,wv + 1,rfl,by go_num,rfl,by omega,by omega,by simp;omega,hown4,hb4,?_,?_,?_⟩
     ·show _ = _
      have hj' := hj.out
      have hm' := hm.out
      rw [List.length_append,List.length_singleton,show n + 1 - (wv + 1) = m by omega,show k - (A.length + 1) = j by omega,List.append_assoc]
      exact hE2.out
     ·have hj' := hj.out
      have hm' := hm.out
      rw [List.length_append,List.length_singleton,show n + 1 - (wv + 1) = m by omega,show k - (A.length + 1) = j by omega]
      exact f1
     ·have hj' := hj.out
      have hm' := hm.out
      rw [List.length_append,List.length_singleton,show n + 1 - (wv + 1) = m by omega,show k - (A.length + 1) = j by omega]
      exact f2
    case measure => simp [intOf];omega
   ·rw [if_neg hrc] at hE2
    replace hE2 := hide hE2
    have hrI : ¬ (rv : Int) < (C : Int) := by omega
    have f1 : rv - C < choose m (j + 1) := by omega
    have f2 : choose m (j + 1) ≤ choose n k := by omega
    have hrB : rv ≤ 9223372036854775807 := by omega
    replace hC := hide hC
    replace hm := hide hm
    replace hj := hide hj
    clear hsum s1 s2 hlt hle hE
    go_wp2_with fail
    refine (rcount_any _ _ _).mono ?_
    rintro e w3 ⟨rfl,rfl⟩
    rw [hci.out]
    have hCr : C ≤ rv := by omega
    go_wp2
    go_roundw
    case rel =>
     have hj' := hj.out
     have hm' := hm.out
     refine ⟨A,ao,cap,rv - C,wv + 1,rfl,by go_num,by go_num,by omega,by omega,by omega,hown,hbel,?_,?_,?_⟩
     ·show _ = _
      rw [show n + 1 - (wv + 1) = m by omega,hj']
      exact hE2.out
     ·rw [show n + 1 - (wv + 1) = m by omega,hj']
      exact f1
     ·rw [show n + 1 - (wv + 1) = m by omega,hj']
      exact f2
    case measure => simp [intOf];omega
  ·have hkA : k - A.length = 0 := by omega
   have hE2 := hE.out
   rw [hkA,unrankL_zero,List.append_nil] at hE2
   replace hE2 := hide hE2
   clear hE hkA hlt hle
   by_cases hwn : wv ≤ n
   all_goals
    go_wp2
    go_ret2
    exact ⟨_,rfl,by rw [← hE2.out];exact hown.rd,by rw [← hE2.out];exact hown.fr,hbel⟩
abbrev RowM := Option Addr × Nat × List Int
def SV (p : RowM) : Value := .slice p.1 p.2.2.length p.2.1
def ApJ (u v : Value) (l : List Int) : Prop := l = [] ∨ u.ownBlock ≠ v.ownBlock
theorem rdJ_lt {w : World} {u : Value} {l : List Int} (h : Rd I64 w u l) (hl : l ≠ []) : ∃ b,u.ownBlock = some b ∧ b < w.heap.size := by
 obtain ⟨ao,cap,rfl,h1,h2,h3⟩ := h
 obtain ⟨b,off,rfl,hb,-⟩ := h3 (List.length_pos_iff.2 hl)
 exact ⟨b,rfl,hb⟩
theorem rdJ_grown {w w' : World} {u : Value} {l : List Int} {row : Option Nat} (h : Rd I64 w u l) (hg : w.grownBy w' row) (ha : l = [] ∨ u.ownBlock ≠ row) : Rd I64 w' u l := by
 rcases ha with rfl | ha
 ·obtain ⟨ao,cap,rfl,h1,h2,h3⟩ := h
  exact ⟨ao,cap,rfl,h1,h2,fun h => absurd h (by simp)⟩
 ·exact h.grown hg (.inl ha)
structure AllO (w : World) (base : Nat) (v : Value) (n k c : Nat) (LL : List RowM) : Prop where
 eq : LL.map (fun p => p.2.2) = (List.range c).map (fun i => unrankL n 1 i k)
 own : Own SV w base 53 v LL
 rd : ∀ p ∈ LL,Rd I64 w (SV p) p.2.2 ∧ ApJ (SV p) v p.2.2
def AllR (w : World) (u : Value) (n k c : Nat) : Prop := ∃ LL : List RowM,LL.map (fun p => p.2.2) = (List.range c).map (fun i => unrankL n 1 i k) ∧ Rd SV w u LL ∧ ∀ p ∈ LL,Rd I64 w (SV p) p.2.2
theorem infoRow : (Tryz.prog.info? 53).map (fun i => (i.zero,i.size,i.bytes)) = some (some (.slice none 0 0),1,24) := by kernel_rfl
section
variable {w w' : World} {base n k c : Nat} {v u : Value} {LL : List RowM}
theorem AllO.nil (w : World) (base n k : Nat) : AllO w base (.slice none 0 0) n k 0 [] := ⟨rfl,Own.nil _ _ _,fun p h => by cases h⟩
theorem AllO.len (h : AllO w base v n k c LL) : LL.length = c := by
 have := congrArg List.length h.eq
 simpa using this
theorem AllO.keep (h : AllO w base v n k c LL) (hb : Below w.heap.size w w') : AllO w' base v n k c LL := ⟨h.eq,h.own.keep hb,fun p hp => ⟨Rd.below (h.rd p hp).1 hb,(h.rd p hp).2⟩⟩
theorem AllO.all (h : AllO w base v n k c LL) : AllR w v n k c := ⟨LL,h.eq,h.own.rd,fun p hp => (h.rd p hp).1⟩
theorem AllO.more (h : AllO w base v n k c LL) {ao : Option Addr} {cap : Nat} (hu : Rd I64 w (SV (ao,cap,unrankL n 1 c k)) (unrankL n 1 c k)) (ha : ApJ (SV (ao,cap,unrankL n 1 c k)) v (unrankL n 1 c k))
  {v' : Value} (ho : Own SV w' base 53 v' (LL ++ [(ao,cap,unrankL n 1 c k)])) (hg : w.grownBy w' v.ownBlock) (hv : v'.ownBlock = v.ownBlock ∨ v'.ownBlock = some w.heap.size) :
  AllO w' base v' n k (c + 1) (LL ++ [(ao,cap,unrankL n 1 c k)]) := by
 have key : ∀ {x : Value} {l : List Int},Rd I64 w x l → ApJ x v l → Rd I64 w' x l ∧ ApJ x v' l := by
  intro x l h1 h2
  refine ⟨rdJ_grown h1 hg h2,?_⟩
  rcases hv with e | e
  ·unfold ApJ;rw [e];exact h2
  ·by_cases hl : l = []
   ·exact .inl hl
   ·obtain ⟨b,hb,hlt⟩ := rdJ_lt h1 hl
    exact .inr (by rw [hb,e];intro e2;injection e2 with e2;omega)
 refine ⟨?_,ho,fun p hp => ?_⟩
 ·rw [List.map_append,h.eq,List.range_succ,List.map_append];rfl
 ·rcases List.mem_append.1 hp with hp | hp
  ·exact key (h.rd p hp).1 (h.rd p hp).2
  ·obtain rfl := List.mem_singleton.1 hp
   exact key hu ha
theorem AllR.below (h : AllR w u n k c) (hb : Below w.heap.size w w') : AllR w' u n k c := by
 obtain ⟨LL,h1,h2,h3⟩ := h
 exact ⟨LL,h1,Rd.below h2 hb,fun p hp => Rd.below (h3 p hp) hb⟩
theorem AllR.setNe (h : AllR w u n k c) {p : Addr} {x : Int} (hp : w.cell? p = some (.int .u64 x)) (y : Value) : AllR (w.setCell p y) u n k c := by
 obtain ⟨LL,h1,h2,h3⟩ := h
 exact ⟨LL,h1,Rd.setNe h2 hp (fun _ e => by cases e) y,fun q hq => Rd.setNe (h3 q hq) hp (fun _ e => by cases e) y⟩
theorem AllR.shape (h : AllR w u n k c) : ∃ ao cap,u = .slice ao c cap := by
 obtain ⟨LL,h1,h2,h3⟩ := h
 have hl : LL.length = c := by have := congrArg List.length h1;simpa using this
 obtain ⟨ao,cap,rfl,-⟩ := h2
 exact ⟨ao,cap,by rw [hl]⟩
theorem AllR.at_ {ao : Option Addr} {m cap i : Nat} (h : AllR w (.slice ao m cap) n k c) (hi : i < c) : ∃ b off xo xc,ao = some ⟨b,off,none⟩ ∧ w.cell? ⟨b,off + i,none⟩ = some (.slice xo (unrankL n 1 i k).length xc) ∧ Rd I64 w (.slice xo (unrankL n 1 i k).length xc) (unrankL n 1 i k) := by
 obtain ⟨LL,h1,h2,h3⟩ := h
 have hl : LL.length = c := by have := congrArg List.length h1;simpa using this
 obtain ⟨b,off,rfl,hb,hc⟩ := h2.at_ (k := i) (by omega)
 have e : LL[i]'(by omega) = (LL[i]'(by omega)) := rfl
 obtain ⟨p,hp⟩ : ∃ p,LL[i]? = some p := ⟨_,List.getElem?_eq_getElem (by omega)⟩
 have hpe : p.2.2 = unrankL n 1 i k := by
  have h4 := congrArg (fun l => l[i]?) h1
  simp only [List.getElem?_map,hp,List.getElem?_range hi,Option.map_some,Option.some.injEq] at h4
  exact h4
 have hcell := hc i (by omega)
 rw [List.getElem?_eq_getElem (by omega)] at hp
 injection hp with hp
 rw [hp] at hcell
 have hrd := h3 p (by rw [← hp];exact List.getElem_mem _)
 obtain ⟨xo,xc,l⟩ := p
 simp only [] at hpe
 subst hpe
 exact ⟨b,off,xo,xc,rfl,hcell,hrd⟩
end
set_option maxHeartbeats 4000000 in
set_option maxRecDepth 100000 in
theorem all35_any (n k c : Nat) (w : World) (hn : n ≤ 80) (hk : k ≤ n) (hc : choose n k = c) (hc2 : c ≤ 1000000) :
  Calls Tryz.prog 56 #[.int .i64 (n : Int),.int .i64 (k : Int)] w (fun e w' => ∃ u,e = .returned u ∧ AllR w' u n k c ∧ Below w.heap.size w w') := by
 have hci0 := hide (countV_ok n k hn (by omega) n k rfl rfl)
 rw [hc] at hci0
 have cU := hide (fun (r : Nat) X (hr : r < c) => runrankF_ok r n k X hn hk (by omega) (by omega))
 have hc9 : (c : Int) ≤ 1000000 := by omega
 clear hn hk hc
 have hown0 := AllO.nil w w.heap.size n k
 go_enter Tryz.func56,Tryz.ntmps56
 go_wp2_with fail
 refine (rcount_any _ _ _).mono ?_
 rintro e w1 ⟨rfl,rfl⟩
 rw [hci0.out]
 go_wp2
 go_loopg [7,20] c (fun gh vv t wr => ∃ (i : Nat) (LL : List RowM) (ao : Option Addr) (cap : Nat),gh = c - i ∧ i ≤ c ∧ t = .int .i64 (i : Int) ∧ vv = .slice ao i cap ∧ AllO wr w.heap.size (.slice ao i cap) n k i LL ∧ Below w.heap.size w wr)
 case atStart => exact ⟨0,[],none,0,rfl,Nat.zero_le _,rfl,rfl,hown0,Below.refl _ _⟩
 case round =>
  clear hown0
  obtain ⟨i,LL,ao,cap,hgh,hi,rfl,rfl,hown,bel⟩ := hrel
  replace hgh := hide hgh
  by_cases hlt : i < c
  ·have hlt2 := hide hlt
   have i1 : (0 : Int) ≤ (i : Int) := by omega
   have i2 : (i : Int) < (c : Int) := by omega
   have hlen := hown.len
   go_wp2_with fail
   refine (cU.out i _ hlt2.out).mono ?_
   rintro e w1 ⟨u,rfl,hu,hf,hb1⟩
   obtain ⟨xo,xc,rfl,-⟩ := Rd.form hu
   have hap : ApJ (.slice xo (unrankL n 1 i k).length xc) (.slice ao i cap) (unrankL n 1 i k) := by
    rcases hf with hf | ⟨g,hg,hg2⟩
    ·exact .inl hf
    ·refine .inr (fun e => ?_)
     rw [hg] at e
     have := (hown.own.lt g e.symm).2
     omega
   replace hown := hown.keep hb1
   replace bel := Bel.to bel hb1
   clear hb1 hf
   obtain ⟨un,hun⟩ : ∃ m,m = (unrankL n 1 i k).length := ⟨_,rfl⟩
   have hu2 := hide hu
   have hap2 := hide hap
   rw [← hun]
   replace hun := hide hun
   clear hu hap
   go_upto_region 9 with (fail)
   have hone := hown.own
   go_wp2_with (with_reducible refine wpList_append_rd _ rfl _ _ 91 rfl (V := SV) (fun _ => rfl) w.heap.size 53 (.slice none 0 0) 24 Tryz.underlying91 infoRow rfl _ LL rfl (hone.alloc _) _ [(xo,xc,unrankL n 1 i k)] rfl ?_ ?_ ?_ ?_ ?_)
   case refine_1 => exact Rd.new _ rfl rfl (Nat.le_refl _) (by decide) (by rw [hun.out];rfl)
   case refine_2 => simp;omega
   case refine_3 => simp;omega
   case refine_4 => have := bel.size;simp;omega
   intro v4 w4 hown4 hg4 hv4
   have hsz2 := bel.size
   have hb4 : Below w.heap.size w w4 := (Bel.al bel _).grown hg4 (by simp;omega) (fun g hg => (hown.own.lt g hg).1)
   have hnew := (hown.keep (Bel.al (Below.refl _ _) (.cells #[.slice xo un xc] 53))).more (ao := xo) (cap := xc) ((hu2.out).alloc _) hap2.out hown4 hg4 (by simpa using hv4)
   obtain ⟨ao4,cap4,rfl⟩ := hown4.shape
   have hl4 : (LL ++ [(xo,xc,unrankL n 1 i k)]).length = i + 1 := by rw [List.length_append,hlen];rfl
   rw [hl4] at hnew ⊢
   clear hown bel hg4 hv4 hsz2 hown4 hone
   go_wp2
   go_roundg (c - (i + 1))
   case measure => have := hgh.out;have := hlt2.out;omega
   case rel => exact ⟨i + 1,_,ao4,cap4,rfl,by have := hlt2.out;omega,by go_num,rfl,hnew,hb4⟩
  ·obtain rfl : i = c := by omega
   have hrd := hown.all
   clear hown
   go_wp2
   go_ret
   exact ⟨_,rfl,hrd,bel⟩
theorem segEq_end {a b : List Int} {f t : Nat} (h : t ≤ f) : segEq a b f t = true := by
 unfold segEq
 rw [List.drop_eq_nil_of_le (by rw [List.length_take];omega),List.drop_eq_nil_of_le (by rw [List.length_take];omega)]
 simp
theorem segEq_step {a b : List Int} {i t : Nat} (h : i < t) (ha : i < a.length) (hb : i < b.length) : segEq a b i t = if a[i] = b[i] then segEq a b (i + 1) t else false := by
 unfold segEq
 have ha2 : i < (a.take t).length := by rw [List.length_take];omega
 have hb2 : i < (b.take t).length := by rw [List.length_take];omega
 rw [List.drop_eq_getElem_cons ha2,List.drop_eq_getElem_cons hb2,List.getElem_take,List.getElem_take]
 by_cases e : a[i] = b[i]
 ·rw [if_pos e]
  exact decide_eq_decide.2 ⟨fun h => (List.cons.inj h).2,fun h => by rw [h,e]⟩
 ·rw [if_neg e]
  exact decide_eq_false fun h => e (List.cons.inj h).1
set_option maxHeartbeats 4000000 in
set_option maxRecDepth 100000 in
theorem meets35_exact (tm tb tx tk tv : Int) (u v : Value) (a b : List Int) (n f t : Nat) (w : World) (ha : Rd I64 w u a) (hb : Rd I64 w v b) (la : a.length = n) (lb : b.length = n) (hn : n ≤ 1000) (hf : f = 0) (ht : t = n) :
  Calls Tryz.prog 52 #[.agg #[.int .i64 tm,.int .i64 tb,.int .i64 tx,.int .i64 1,.int .i64 tk,.int .i64 tv],u,v] w (BoolB (segEq a b f t) w) := by
 obtain ⟨ao,ac,rfl,-,-,hra⟩ := Rd.form ha
 obtain ⟨bo,bc,rfl,-,-,hrb⟩ := Rd.form hb
 obtain ⟨R,hR⟩ : ∃ R,R = segEq a b f t := ⟨_,rfl⟩
 rw [← hR]
 have hR0 : Hid (R = segEq a b f t) := hR
 rw [la] at hra ⊢
 rw [lb] at hrb ⊢
 subst hf
 subst ht
 have hft : 0 ≤ t := Nat.zero_le _
 have htn : t ≤ t := Nat.le_refl _
 replace la := hide la
 replace lb := hide lb
 clear ha hb hR
 go_enter Tryz.func52,Tryz.ntmps52
 go_upto_region 1 with (fail)
 obtain ⟨W,hW⟩ : ∃ W,W = w.alloc (Obj.cells #[.int .i64 tm,.int .i64 tb,.int .i64 tx,.int .i64 1,.int .i64 tk,.int .i64 tv] 73) := ⟨_,rfl⟩
 have bW : Below w.heap.size w W := by rw [hW];exact Bel.al (Below.refl _ _) _
 have rt : Row W w.heap.size 73 [.int .i64 tm,.int .i64 tb,.int .i64 tx,.int .i64 1,.int .i64 tk,.int .i64 tv] := by rw [hW];exact Row.newOf _ rfl
 rw [← hW]
 clear hW
 have q0 : W.cell? ⟨w.heap.size,0,none⟩ = some (.int .i64 tm) := (rt.cell? 0).trans rfl
 have q3 : W.cell? ⟨w.heap.size,3,none⟩ = some (.int .i64 1) := (rt.cell? 3).trans rfl
 skip
 replace hra := Rd.below hra bW
 replace hrb := Rd.below hrb bW
 clear rt
 go_wp2
 clear q0 q3
 go_loopg [9] (t - 0) (fun gh x wr => ∃ (i d : Nat),gh = t - i ∧ 0 ≤ i ∧ i ≤ t ∧ x = .int .i64 (i : Int) ∧ Hid (R = segEq a b i t) ∧ wr = W.drewN d)
 case atStart => exact ⟨0,0,rfl,Nat.le_refl _,hft,by first | rfl | go_num,hR0,rfl⟩
 case round =>
  clear hR0
  obtain ⟨i,d,hgh,hfi,hi,rfl,hR,rfl⟩ := hrel
  replace hgh := hide hgh
  have hfi2 := hide hfi
  clear hfi
  by_cases hlt : i < t
  ·have hlt2 := hide hlt
   have hia : i < a.length := by rw [la.out];omega
   have hib : i < b.length := by rw [lb.out];omega
   obtain ⟨ba,offa,rfl,hba,hcella⟩ := hra.at_ hia
   obtain ⟨bb,offb,rfl,hbb,hcellb⟩ := hrb.at_ hib
   obtain ⟨x,hx,c1⟩ : ∃ x,x = a[i] ∧ W.cell? ⟨ba,offa + i,none⟩ = some (.int .i64 x) := ⟨_,rfl,hcella _ hia⟩
   obtain ⟨y,hy,c2⟩ : ∃ y,y = b[i] ∧ W.cell? ⟨bb,offb + i,none⟩ = some (.int .i64 y) := ⟨_,rfl,hcellb _ hib⟩
   have hst := segEq_step (a := a) (b := b) hlt hia hib
   rw [← hx,← hy,← hR.out] at hst
   clear hcella hcellb hx hy hR
   have i1 : (0 : Int) ≤ (i : Int) := by omega
   have i2 : (i : Int) < (t : Int) := by omega
   have i3 : (i : Int) < (t : Int) := by omega
   by_cases he : x = y
   ·have hb1 : (x != y) = false := by simpa using he
    rw [if_pos he] at hst
    replace hst := hide hst
    replace he := hide he
    go_wp2
    go_quiet (fail)
    go_wp2
    go_roundg (t - (i + 1))
    case measure => have := hgh.out;have := hlt2.out;omega
    case rel => exact ⟨i + 1,_,rfl,by have := hfi2.out;omega,by have := hlt2.out;omega,by go_num,hst,rfl⟩
   ·have hb1 : (x != y) = true := by simpa using he
    rw [if_neg he] at hst
    subst hst
    replace he := hide he
    go_wp2
    go_quiet (fail)
    go_wp2
    go_ret
    exact ⟨rfl,Bel.drN (Bel.drN bW _) _⟩
  ·obtain rfl : i = t := by omega
   have e1 : true = R := by rw [hR.out,segEq_end (Nat.le_refl _)]
   subst e1
   clear hR
   go_wp2
   go_ret
   exact ⟨rfl,Bel.drN bW _⟩
set_option maxHeartbeats 4000000 in
set_option maxRecDepth 100000 in
theorem meets35_front (tm tb tx tk tv : Int) (u v : Value) (a b : List Int) (n f t : Nat) (w : World) (ha : Rd I64 w u a) (hb : Rd I64 w v b) (la : a.length = n) (lb : b.length = n) (hn : n ≤ 1000) (hf : f = 0) (htm : tm = (t : Int)) (htn : t ≤ n) :
  Calls Tryz.prog 52 #[.agg #[.int .i64 tm,.int .i64 tb,.int .i64 tx,.int .i64 3,.int .i64 tk,.int .i64 tv],u,v] w (BoolB (segEq a b f t) w) := by
 obtain ⟨ao,ac,rfl,-,-,hra⟩ := Rd.form ha
 obtain ⟨bo,bc,rfl,-,-,hrb⟩ := Rd.form hb
 obtain ⟨R,hR⟩ : ∃ R,R = segEq a b f t := ⟨_,rfl⟩
 rw [← hR]
 have hR0 : Hid (R = segEq a b f t) := hR
 rw [la] at hra ⊢
 rw [lb] at hrb ⊢
 subst hf
 have hft : 0 ≤ t := Nat.zero_le _
 replace htm := hide htm
 replace la := hide la
 replace lb := hide lb
 clear ha hb hR
 go_enter Tryz.func52,Tryz.ntmps52
 go_upto_region 1 with (fail)
 obtain ⟨W,hW⟩ : ∃ W,W = w.alloc (Obj.cells #[.int .i64 tm,.int .i64 tb,.int .i64 tx,.int .i64 3,.int .i64 tk,.int .i64 tv] 73) := ⟨_,rfl⟩
 have bW : Below w.heap.size w W := by rw [hW];exact Bel.al (Below.refl _ _) _
 have rt : Row W w.heap.size 73 [.int .i64 tm,.int .i64 tb,.int .i64 tx,.int .i64 3,.int .i64 tk,.int .i64 tv] := by rw [hW];exact Row.newOf _ rfl
 rw [← hW]
 clear hW
 have q0 : W.cell? ⟨w.heap.size,0,none⟩ = some (.int .i64 tm) := (rt.cell? 0).trans rfl
 have q3 : W.cell? ⟨w.heap.size,3,none⟩ = some (.int .i64 3) := (rt.cell? 3).trans rfl
 rw [htm.out] at q0
 replace hra := Rd.below hra bW
 replace hrb := Rd.below hrb bW
 clear rt
 go_wp2
 clear q0 q3
 go_loopg [9] (t - 0) (fun gh x wr => ∃ (i d : Nat),gh = t - i ∧ 0 ≤ i ∧ i ≤ t ∧ x = .int .i64 (i : Int) ∧ Hid (R = segEq a b i t) ∧ wr = W.drewN d)
 case atStart => exact ⟨0,0,rfl,Nat.le_refl _,hft,by first | rfl | go_num,hR0,rfl⟩
 case round =>
  clear hR0
  obtain ⟨i,d,hgh,hfi,hi,rfl,hR,rfl⟩ := hrel
  replace hgh := hide hgh
  have hfi2 := hide hfi
  clear hfi
  by_cases hlt : i < t
  ·have hlt2 := hide hlt
   have hia : i < a.length := by rw [la.out];omega
   have hib : i < b.length := by rw [lb.out];omega
   obtain ⟨ba,offa,rfl,hba,hcella⟩ := hra.at_ hia
   obtain ⟨bb,offb,rfl,hbb,hcellb⟩ := hrb.at_ hib
   obtain ⟨x,hx,c1⟩ : ∃ x,x = a[i] ∧ W.cell? ⟨ba,offa + i,none⟩ = some (.int .i64 x) := ⟨_,rfl,hcella _ hia⟩
   obtain ⟨y,hy,c2⟩ : ∃ y,y = b[i] ∧ W.cell? ⟨bb,offb + i,none⟩ = some (.int .i64 y) := ⟨_,rfl,hcellb _ hib⟩
   have hst := segEq_step (a := a) (b := b) hlt hia hib
   rw [← hx,← hy,← hR.out] at hst
   clear hcella hcellb hx hy hR
   have i1 : (0 : Int) ≤ (i : Int) := by omega
   have i2 : (i : Int) < (t : Int) := by omega
   have i3 : (i : Int) < (n : Int) := by omega
   by_cases he : x = y
   ·have hb1 : (x != y) = false := by simpa using he
    rw [if_pos he] at hst
    replace hst := hide hst
    replace he := hide he
    go_wp2
    go_quiet (fail)
    go_wp2
    go_roundg (t - (i + 1))
    case measure => have := hgh.out;have := hlt2.out;omega
    case rel => exact ⟨i + 1,_,rfl,by have := hfi2.out;omega,by have := hlt2.out;omega,by go_num,hst,rfl⟩
   ·have hb1 : (x != y) = true := by simpa using he
    rw [if_neg he] at hst
    subst hst
    replace he := hide he
    go_wp2
    go_quiet (fail)
    go_wp2
    go_ret
    exact ⟨rfl,Bel.drN (Bel.drN bW _) _⟩
  ·obtain rfl : i = t := by omega
   have e1 : true = R := by rw [hR.out,segEq_end (Nat.le_refl _)]
   subst e1
   clear hR
   go_wp2
   go_ret
   exact ⟨rfl,Bel.drN bW _⟩
set_option maxHeartbeats 4000000 in
set_option maxRecDepth 100000 in
theorem meets35_back (tm tb tx tk tv : Int) (u v : Value) (a b : List Int) (n f t : Nat) (w : World) (ha : Rd I64 w u a) (hb : Rd I64 w v b) (la : a.length = n) (lb : b.length = n) (hn : n ≤ 1000) (ht : t = n) (htm : tm = (n : Int) - (f : Int)) (hft : f ≤ n) :
  Calls Tryz.prog 52 #[.agg #[.int .i64 tm,.int .i64 tb,.int .i64 tx,.int .i64 4,.int .i64 tk,.int .i64 tv],u,v] w (BoolB (segEq a b f t) w) := by
 obtain ⟨ao,ac,rfl,-,-,hra⟩ := Rd.form ha
 obtain ⟨bo,bc,rfl,-,-,hrb⟩ := Rd.form hb
 obtain ⟨R,hR⟩ : ∃ R,R = segEq a b f t := ⟨_,rfl⟩
 rw [← hR]
 have hR0 : Hid (R = segEq a b f t) := hR
 rw [la] at hra ⊢
 rw [lb] at hrb ⊢
 subst ht
 have htn : t ≤ t := Nat.le_refl _
 replace htm := hide htm
 replace la := hide la
 replace lb := hide lb
 clear ha hb hR
 go_enter Tryz.func52,Tryz.ntmps52
 go_upto_region 1 with (fail)
 obtain ⟨W,hW⟩ : ∃ W,W = w.alloc (Obj.cells #[.int .i64 tm,.int .i64 tb,.int .i64 tx,.int .i64 4,.int .i64 tk,.int .i64 tv] 73) := ⟨_,rfl⟩
 have bW : Below w.heap.size w W := by rw [hW];exact Bel.al (Below.refl _ _) _
 have rt : Row W w.heap.size 73 [.int .i64 tm,.int .i64 tb,.int .i64 tx,.int .i64 4,.int .i64 tk,.int .i64 tv] := by rw [hW];exact Row.newOf _ rfl
 rw [← hW]
 clear hW
 have q0 : W.cell? ⟨w.heap.size,0,none⟩ = some (.int .i64 tm) := (rt.cell? 0).trans rfl
 have q3 : W.cell? ⟨w.heap.size,3,none⟩ = some (.int .i64 4) := (rt.cell? 3).trans rfl
 have hwr : IntKind.i64.wrap ((t : Int) - tm) = (f : Int) := by (have := htm.out);rw [IntKind.wrap_i64];omega
 replace hra := Rd.below hra bW
 replace hrb := Rd.below hrb bW
 clear rt
 go_wp2
 clear q0 q3
 go_loopg [9] (t - f) (fun gh x wr => ∃ (i d : Nat),gh = t - i ∧ f ≤ i ∧ i ≤ t ∧ x = .int .i64 (i : Int) ∧ Hid (R = segEq a b i t) ∧ wr = W.drewN d)
 case atStart => exact ⟨f,0,rfl,Nat.le_refl _,hft,by first | rfl | go_num,hR0,rfl⟩
 case round =>
  clear hR0
  obtain ⟨i,d,hgh,hfi,hi,rfl,hR,rfl⟩ := hrel
  replace hgh := hide hgh
  have hfi2 := hide hfi
  clear hfi
  by_cases hlt : i < t
  ·have hlt2 := hide hlt
   have hia : i < a.length := by rw [la.out];omega
   have hib : i < b.length := by rw [lb.out];omega
   obtain ⟨ba,offa,rfl,hba,hcella⟩ := hra.at_ hia
   obtain ⟨bb,offb,rfl,hbb,hcellb⟩ := hrb.at_ hib
   obtain ⟨x,hx,c1⟩ : ∃ x,x = a[i] ∧ W.cell? ⟨ba,offa + i,none⟩ = some (.int .i64 x) := ⟨_,rfl,hcella _ hia⟩
   obtain ⟨y,hy,c2⟩ : ∃ y,y = b[i] ∧ W.cell? ⟨bb,offb + i,none⟩ = some (.int .i64 y) := ⟨_,rfl,hcellb _ hib⟩
   have hst := segEq_step (a := a) (b := b) hlt hia hib
   rw [← hx,← hy,← hR.out] at hst
   clear hcella hcellb hx hy hR
   have i1 : (0 : Int) ≤ (i : Int) := by omega
   have i2 : (i : Int) < (t : Int) := by omega
   have i3 : (i : Int) < (t : Int) := by omega
   by_cases he : x = y
   ·have hb1 : (x != y) = false := by simpa using he
    rw [if_pos he] at hst
    replace hst := hide hst
    replace he := hide he
    go_wp2
    go_quiet (fail)
    go_wp2
    go_roundg (t - (i + 1))
    case measure => have := hgh.out;have := hlt2.out;omega
    case rel => exact ⟨i + 1,_,rfl,by have := hfi2.out;omega,by have := hlt2.out;omega,by go_num,hst,rfl⟩
   ·have hb1 : (x != y) = true := by simpa using he
    rw [if_neg he] at hst
    subst hst
    replace he := hide he
    go_wp2
    go_quiet (fail)
    go_wp2
    go_ret
    exact ⟨rfl,Bel.drN (Bel.drN bW _) _⟩
  ·obtain rfl : i = t := by omega
   have e1 : true = R := by rw [hR.out,segEq_end (Nat.le_refl _)]
   subst e1
   clear hR
   go_wp2
   go_ret
   exact ⟨rfl,Bel.drN bW _⟩
def tierV (t : TierD) : Value := .agg #[.int .i64 t.main,.int .i64 t.bonus,.int .i64 t.extra,.int .i64 t.mode,.int .i64 t.kind,.int .i64 t.value]
set_option maxHeartbeats 4000000 in
set_option maxRecDepth 100000 in
theorem meets35_box (tm tb tx tk tv : Int) (u v : Value) (a b : List Int) (w : World) (ha : Rd I64 w u a) (hb : Rd I64 w v b) (la : a.length ≤ 1000) (lb : b.length ≤ 1000) :
  Calls Tryz.prog 52 #[.agg #[.int .i64 tm,.int .i64 tb,.int .i64 tx,.int .i64 2,.int .i64 tk,.int .i64 tv],u,v] w (BoolB (boxL a b) w) := by
 have cB := hide (fun X (hX : Below w.heap.size w X) => box35_any u v a b X (Rd.below ha hX) (Rd.below hb hX) la lb)
 obtain ⟨ao,ac,rfl,-,-,-⟩ := Rd.form ha
 obtain ⟨bo,bc,rfl,-,-,-⟩ := Rd.form hb
 obtain ⟨R,hR⟩ : ∃ R,R = boxL a b := ⟨_,rfl⟩
 rw [← hR] at cB ⊢
 clear ha hb hR
 go_enter Tryz.func52,Tryz.ntmps52
 go_upto_region 1 with (fail)
 obtain ⟨W,hW⟩ : ∃ W,W = w.alloc (Obj.cells #[.int .i64 tm,.int .i64 tb,.int .i64 tx,.int .i64 2,.int .i64 tk,.int .i64 tv] 73) := ⟨_,rfl⟩
 have bW : Below w.heap.size w W := by rw [hW];exact Bel.al (Below.refl _ _) _
 have rt : Row W w.heap.size 73 [.int .i64 tm,.int .i64 tb,.int .i64 tx,.int .i64 2,.int .i64 tk,.int .i64 tv] := by rw [hW];exact Row.newOf _ rfl
 rw [← hW]
 clear hW
 have q3 : W.cell? ⟨w.heap.size,3,none⟩ = some (.int .i64 2) := (rt.cell? 3).trans rfl
 have c1 := hide (cB.out W bW)
 clear rt cB
 go_wp2_with fail
 refine c1.out.mono ?_
 rintro e w1 ⟨rfl,hb1⟩
 clear q3 c1
 go_wp2
 go_ret
 exact ⟨rfl,Bel.to bW hb1⟩
theorem meets35_any (t : TierD) (u v : Value) (a b : List Int) (n : Nat) (w : World) (ha : Rd I64 w u a) (hb : Rd I64 w v b) (la : a.length = n) (lb : b.length = n) (hn : n ≤ 1000)
  (ht : (t.mode = 1 ∧ t.main = 0) ∨ (t.mode = 2 ∧ t.main = 0) ∨ (t.mode = 3 ∧ 1 ≤ t.main ∧ t.main ≤ (n : Int)) ∨ (t.mode = 4 ∧ 1 ≤ t.main ∧ t.main ≤ (n : Int))) :
  Calls Tryz.prog 52 #[tierV t,u,v] w (BoolB (meetB n t a b) w) := by
 unfold tierV meetB
 rcases ht with ⟨h,_⟩ | ⟨h,_⟩ | ⟨h,h2,h3⟩ | ⟨h,h2,h3⟩
 ·rw [h,if_neg (by decide),if_neg (by decide),if_neg (by decide)]
  exact meets35_exact _ _ _ _ _ u v a b n 0 n w ha hb la lb hn rfl rfl
 ·rw [h,if_pos rfl]
  exact meets35_box _ _ _ _ _ u v a b w ha hb (by omega) (by omega)
 ·rw [h,if_neg (by decide),if_pos rfl]
  exact meets35_front _ _ _ _ _ u v a b n 0 t.main.toNat w ha hb la lb hn rfl (by omega) (by omega)
 ·rw [h,if_neg (by decide),if_neg (by decide),if_pos rfl]
  exact meets35_back _ _ _ _ _ u v a b n (n - t.main.toNat) n w ha hb la lb hn rfl (by omega) (by omega)
end Go.Proofs.YtldikghldcefcaaGreat
end
section
set_option linter.unusedVariables false
set_option linter.unusedSimpArgs false
namespace Go.Proofs.YtldikghldcefcaaGreat
open Go.RowKit
def U6 (x : Nat) : Value := .int .u64 (x : Int)
def tabL (tn : Nat) (F : Nat → Nat) : List Nat := (List.range tn).map F
theorem tabL_len (tn : Nat) (F : Nat → Nat) : (tabL tn F).length = tn := by unfold tabL;simp
theorem tabL_at {tn t : Nat} (F : Nat → Nat) (h : t < tn) : (tabL tn F)[t]? = some (F t) := by unfold tabL;rw [List.getElem?_map,List.getElem?_range h];rfl
theorem tabL_set {tn t : Nat} (F : Nat → Nat) (h : t < tn) : (tabL tn F).set t (F t + 1) = tabL tn fun s => F s + if t = s then 1 else 0 := by
 apply List.ext_getElem?
 intro j
 by_cases hj : j < tn
 ·rw [tabL_at _ hj]
  by_cases e : t = j
  ·subst e;rw [List.getElem?_set_self (by rw [tabL_len];exact hj)];simp
  ·rw [List.getElem?_set_ne e,tabL_at _ hj,if_neg e];rfl
 ·rw [List.getElem?_eq_none (by rw [List.length_set,tabL_len];omega),List.getElem?_eq_none (by rw [tabL_len];omega)]
theorem tabL_congr {tn : Nat} {F H : Nat → Nat} (h : ∀ t,t < tn → F t = H t) : tabL tn F = tabL tn H := List.map_congr_left fun t ht => h t (List.mem_range.1 ht)
structure CntS (w wr : World) (g : GameD) (av tv : Value) (cb tn : Nat) (F : Nat → Nat) : Prop where
 bel : Below w.heap.size w wr
 game : GameAt wr w.heap.size g av tv
 row : Row wr cb 47 ((tabL tn F).map U6)
 lt : w.heap.size < cb
section
variable {w wr wr' : World} {g : GameD} {av tv : Value} {cb tn t : Nat} {F H : Nat → Nat}
theorem CntS.keep (h : CntS w wr g av tv cb tn F) (hb : Below wr.heap.size wr wr') : CntS w wr' g av tv cb tn F := ⟨Bel.to h.bel hb,h.game.keep hb,Row.keep h.row hb,h.lt⟩
theorem CntS.congr (h : CntS w wr g av tv cb tn F) (e : ∀ t,t < tn → F t = H t) : CntS w wr g av tv cb tn H := ⟨h.bel,h.game,by rw [← tabL_congr e];exact h.row,h.lt⟩
theorem CntS.cell (h : CntS w wr g av tv cb tn F) (ht : t < tn) : wr.cell? ⟨cb,t,none⟩ = some (.int .u64 (F t : Nat)) := by rw [h.row.cell?,List.getElem?_map,tabL_at F ht];rfl
theorem CntS.bump (h : CntS w wr g av tv cb tn F) (ht : t < tn) : CntS w (wr.setCell ⟨cb,t,none⟩ (.int .u64 ((F t + 1 : Nat) : Int))) g av tv cb tn fun s => F s + if t = s then 1 else 0 := by
 have hl := h.lt
 refine ⟨Bel.st h.bel (p := ⟨cb,t,none⟩) (by simp only [];omega) _,Row.far h.game (p := ⟨cb,t,none⟩) (by simp only [];omega) _,?_,hl⟩
 have h1 := Row.setV h.row t (F t + 1)
 rw [tabL_set F ht] at h1
 exact h1
theorem CntS.rd (h : CntS w wr g av tv cb tn F) (hn : tn ≤ 1000000) : Rd U6 wr (.slice (some ⟨cb,0,none⟩) tn tn) (tabL tn F) := Row.rdAll h.row (tabL_len _ _).symm (Nat.le_refl _) (by omega)
end
def TabC (tn : Nat) (F : Nat → Nat) (w : World) (e : Ending) (w' : World) : Prop := ∃ cb,e = .returned (.slice (some ⟨cb,0,none⟩) tn tn) ∧ Row w' cb 47 ((tabL tn F).map U6) ∧ Below w.heap.size w w'
theorem sumTo_le_one {f : Nat → Nat} {n : Nat} (h : ∀ k,k < n → f k ≤ 1) : sumTo f n ≤ n := by
 have h1 := sumTo_le (f := f) (g := fun _ => 1) h
 rw [sumTo_const] at h1
 omega
theorem sQ_le (g : GameD) (t x n : Nat) : sQ g t x n ≤ n := sumTo_le_one fun k _ => by split <;> omega
theorem sP_le (g : GameD) (t many n : Nat) : sP g t many n ≤ n * many := by
 have h1 := sumTo_le (f := fun x => sQ g t x many) (g := fun _ => many) (n := n) fun k _ => sQ_le g t k many
 rw [sumTo_const] at h1
 exact h1
set_option maxHeartbeats 16000000 in
set_option maxRecDepth 100000 in
theorem paired35_any (g : GameD) (av tv : Value) (ms : List AddonM) (many : Nat) (w : World) (rg : GameR w av tv ms g) (he : gameE g = 0) (hk : g.kind = 2) (hm : many ≤ 40) :
  Calls Tryz.prog 19 #[gameVal g av tv,.int .i64 (many : Int)] w (TabC g.tiers.length (fun t => sP g t many many) w) := by
 have hmf := mat_facts (game_mat he)
 have htl12 := (game_tiers he).1
 obtain ⟨q,hq⟩ : ∃ q : Nat,g.of = (q : Int) := ⟨g.of.toNat,by omega⟩
 obtain ⟨n,hn⟩ : ∃ n : Nat,g.main = (n : Int) := ⟨g.main.toNat,by omega⟩
 have hq1 : 1 ≤ q := by have := hmf.2.2.2.2.2.2.1 hk;omega
 have hq2 : q ≤ 1000 := by omega
 have hn2 : n ≤ 1000 := by omega
 have hq0 : g.of.toNat = q := by omega
 have hn0 : g.main.toNat = n := by omega
 have cD := hide (fun (x : Nat) X (hx : x ≤ 1000) => digits35_any x q n X hq1 hq2 hn2 (by omega))
 have hmet : Hid (∀ x y,metI g x y = g.tiers.findIdx fun t => meetB n t (digI q n x) (digI q n y)) := by
  show ∀ _ _,_ = _
  intro x y
  unfold metI
  rw [hq0,hn0]
 have hdt := hide (fun (t : TierD) (ht : t ∈ g.tiers) => by have h := dig_tier he hk ht;rw [hn] at h;exact h)
 have hT := hide (fun X (hX : Below w.heap.size w X) => RdS.below rg.2.2 hX)
 have cM := hide (fun (t : TierD) (u v : Value) (a b : List Int) X (h1 : Rd I64 X u a) (h2 : Rd I64 X v b) (la : a.length = n) (lb : b.length = n) ht => meets35_any t u v a b n X h1 h2 la lb hn2 ht)
 obtain ⟨aa,ac,rfl,hal,ham⟩ := rg.1.1.shape
 obtain ⟨ta,tc,rfl,htl,htm⟩ := rg.2.2.shape
 obtain ⟨an,han⟩ : ∃ an,an = ms.length := ⟨_,rfl⟩
 obtain ⟨tn,htn⟩ : ∃ tn,tn = g.tiers.length := ⟨_,rfl⟩
 rw [← htn] at htl12 hT
 rw [← han,← htn]
 have ht12 : (tn : Int) ≤ 12 := by omega
 have hm40 : (many : Int) ≤ 40 := by omega
 have hm9 := hide hm
 replace htn := hide htn
 replace hq := hide hq
 replace hn := hide hn
 clear rg hal ham htl htm han he hk hmf hq1 hq2 hq0 hn0
 unfold gameVal
 go_enter Tryz.func19,Tryz.ntmps19
 go_upto_region 1 with (fail)
 obtain ⟨W,hW⟩ : ∃ W,W = w.alloc (Obj.cells #[.string g.name,.int .i64 g.kind,.int .i64 g.price,.int .i64 g.main,.int .i64 g.of,.int .i64 g.bonus,.int .i64 g.bonusOf,.int .i64 g.extra,.int .i64 g.draws,.int .i64 g.system,.int .i64 g.days,.int .i64 g.at_,.int .i64 g.close,.int .i64 g.cancel,.int .i64 g.expiry,.int .i64 g.pool,.int .i64 g.reserve,.int .i64 g.round,.int .i64 g.cap,.int .i64 g.rolls,(.slice aa an ac),(.slice ta tn tc)] 25) := ⟨_,rfl⟩
 have bW : Below w.heap.size w W := by rw [hW];exact Bel.al (Below.refl _ _) _
 have r0 : GameAt W w.heap.size g (.slice aa an ac) (.slice ta tn tc) := by rw [hW];exact Row.new _ _ _
 have sW : w.heap.size < W.heap.size := by rw [hW];simp
 rw [← hW]
 clear hW
 have x21 := r0.tiers
 go_wp2_with (first | (with_reducible refine wpList_make_row _ rfl _ _ 45 rfl 47 (.int .u64 0) 8 Tryz.underlying45 (by kernel_rfl) rfl .i64 .i64 _ _ tn tn rfl rfl rfl rfl (Nat.le_refl _) (by omega) (by omega) ?_) | fail)
 intro X rX bX sX
 obtain ⟨cb,hcb⟩ : ∃ cb,cb = W.heap.size := ⟨_,rfl⟩
 rw [← hcb] at rX ⊢
 have hS0 : CntS w X g (.slice aa an ac) (.slice ta tn tc) cb tn fun t => sP g t many 0 := by
  refine ⟨Bel.to bW bX,r0.keep bX,?_,by omega⟩
  have : (tabL tn fun t => sP g t many 0).map U6 = List.replicate tn (.int .u64 0) := by
   unfold tabL
   rw [List.map_map]
   apply List.ext_getElem?
   intro j
   by_cases hj : j < tn
   ·rw [List.getElem?_map,List.getElem?_range hj,List.getElem?_replicate,if_pos hj];rfl
   ·rw [List.getElem?_eq_none (by simp;omega),List.getElem?_eq_none (by simp;omega)]
  rw [this]
  exact rX
 clear x21 r0 bW sW hcb bX sX rX
 go_wp2
 go_loopg [17] many (fun gh t wr => ∃ (x : Nat),gh = many - x ∧ x ≤ many ∧ t = .int .i64 (x : Int) ∧ CntS w wr g (.slice aa an ac) (.slice ta tn tc) cb tn fun t => sP g t many x)
 case atStart => exact ⟨0,rfl,Nat.zero_le _,rfl,hS0⟩
 case round =>
  clear hS0
  obtain ⟨x,hgh,hx,rfl,hS⟩ := hrel
  replace hgh := hide hgh
  by_cases hlt : x < many
  ·have hlt2 := hide hlt
   have hx9 := hide (show x ≤ 1000 by omega)
   have i1 : (0 : Int) ≤ (x : Int) := by omega
   have i2 : (x : Int) < (many : Int) := by omega
   obtain ⟨wo,hwo⟩ : ∃ wo,wo = wr := ⟨_,rfl⟩
   subst hwo
   clear hlt
   go_wp2
   go_loopg [21] many (fun gh t wr => ∃ (y : Nat),gh = many - y ∧ y ≤ many ∧ t = .int .i64 (y : Int) ∧ CntS w wr g (.slice aa an ac) (.slice ta tn tc) cb tn fun t => sP g t many x + sQ g t x y)
   case atStart => exact ⟨0,rfl,Nat.zero_le _,rfl,hS⟩
   case round =>
    clear hS
    obtain ⟨y,hgy,hy,rfl,hS⟩ := hrel
    replace hgy := hide hgy
    by_cases hly : y < many
    ·have hly2 := hide hly
     have hy9 := hide (show y ≤ 1000 by omega)
     have j1 : (0 : Int) ≤ (y : Int) := by omega
     have j2 : (y : Int) < (many : Int) := by omega
     clear hly
     have d3 := hS.game.main
     have d4 := hS.game.of
     rw [hn.out] at d3
     rw [hq.out] at d4
     go_upto_region 8 with (fail)
     go_cut [8,9] (fun p r X => ∃ (pa : Option Addr) (pc : Nat) (qa : Option Addr) (qc : Nat),p = .slice pa n pc ∧ r = .slice qa n qc ∧ Rd I64 X (.slice pa n pc) (digI q n x) ∧ Rd I64 X (.slice qa n qc) (digI q n y) ∧ CntS w X g (.slice aa an ac) (.slice ta tn tc) cb tn fun t => sP g t many x + sQ g t x y)
     case first =>
      refine till_begin 13 (fun X => X.cell? ⟨w.heap.size,4,none⟩ = some (.int .i64 (q : Int)) ∧ X.cell? ⟨w.heap.size,3,none⟩ = some (.int .i64 (n : Int))) (by kernel_rfl) (⟨d4,d3⟩) (fun hHeld => ?_)
      refine' till_pure (i := 0) (oi := _) (v := .int .i64 (x : Int)) rfl (by kernel_rfl) (by kernel_rfl) (by kernel_rfl) (by kernel_rfl) (fun _ _ _ h => h) (Or.inl ⟨by first | (go_simp;done) | rfl,fun X _ => by go_simp⟩) hHeld ?_
      try simp only [List.getElem_toArray,List.getElem_cons_zero,List.getElem_cons_succ,Act.put,zsA,zsB,zsC]
      refine' till_pure (i := 1) (oi := _) (v := .pointer (some ⟨w.heap.size,4,none⟩)) rfl (by kernel_rfl) (by kernel_rfl) (by kernel_rfl) (by kernel_rfl) (fun _ _ _ h => h) (Or.inl ⟨by first | (go_simp;done) | rfl,fun X _ => by go_simp⟩) hHeld ?_
      try simp only [List.getElem_toArray,List.getElem_cons_zero,List.getElem_cons_succ,Act.put,zsA,zsB,zsC]
      refine' till_take (i := 2) (oi := _) (v := .int .i64 (q : Int)) rfl (by kernel_rfl) (by kernel_rfl) (by kernel_rfl) (by kernel_rfl) (fun _ _ _ h => h) (Or.inl ⟨by first | (go_simp;done) | rfl,fun X hX => by have h0 := hX.1;go_simp⟩) hHeld ?_
      try simp only [List.getElem_toArray,List.getElem_cons_zero,List.getElem_cons_succ,Act.put,zsA,zsB,zsC]
      refine' till_pure (i := 3) (oi := _) (v := .pointer (some ⟨w.heap.size,3,none⟩)) rfl (by kernel_rfl) (by kernel_rfl) (by kernel_rfl) (by kernel_rfl) (fun _ _ _ h => h) (Or.inl ⟨by first | (go_simp;done) | rfl,fun X _ => by go_simp⟩) hHeld ?_
      try simp only [List.getElem_toArray,List.getElem_cons_zero,List.getElem_cons_succ,Act.put,zsA,zsB,zsC]
      refine' till_take (i := 4) (oi := _) (v := .int .i64 (n : Int)) rfl (by kernel_rfl) (by kernel_rfl) (by kernel_rfl) (by kernel_rfl) (fun _ _ _ h => h) (Or.inl ⟨by first | (go_simp;done) | rfl,fun X hX => by have h0 := hX.2;go_simp⟩) hHeld ?_
      try simp only [List.getElem_toArray,List.getElem_cons_zero,List.getElem_cons_succ,Act.put,zsA,zsB,zsC]
      refine' till_pure (i := 6) (oi := _) (v := .int .i64 (y : Int)) rfl (by kernel_rfl) (by kernel_rfl) (by kernel_rfl) (by kernel_rfl) (fun _ _ _ h => h) (Or.inl ⟨by first | (go_simp;done) | rfl,fun X _ => by go_simp⟩) hHeld ?_
      try simp only [List.getElem_toArray,List.getElem_cons_zero,List.getElem_cons_succ,Act.put,zsA,zsB,zsC]
      refine' till_pure (i := 7) (oi := _) (v := .pointer (some ⟨w.heap.size,4,none⟩)) rfl (by kernel_rfl) (by kernel_rfl) (by kernel_rfl) (by kernel_rfl) (fun _ _ _ h => h) (Or.inl ⟨by first | (go_simp;done) | rfl,fun X _ => by go_simp⟩) hHeld ?_
      try simp only [List.getElem_toArray,List.getElem_cons_zero,List.getElem_cons_succ,Act.put,zsA,zsB,zsC]
      refine' till_take (i := 8) (oi := _) (v := .int .i64 (q : Int)) rfl (by kernel_rfl) (by kernel_rfl) (by kernel_rfl) (by kernel_rfl) (fun _ _ _ h => h) (Or.inl ⟨by first | (go_simp;done) | rfl,fun X hX => by have h0 := hX.1;go_simp⟩) hHeld ?_
      try simp only [List.getElem_toArray,List.getElem_cons_zero,List.getElem_cons_succ,Act.put,zsA,zsB,zsC]
      refine' till_pure (i := 9) (oi := _) (v := .pointer (some ⟨w.heap.size,3,none⟩)) rfl (by kernel_rfl) (by kernel_rfl) (by kernel_rfl) (by kernel_rfl) (fun _ _ _ h => h) (Or.inl ⟨by first | (go_simp;done) | rfl,fun X _ => by go_simp⟩) hHeld ?_
      try simp only [List.getElem_toArray,List.getElem_cons_zero,List.getElem_cons_succ,Act.put,zsA,zsB,zsC]
      refine' till_take (i := 10) (oi := _) (v := .int .i64 (n : Int)) rfl (by kernel_rfl) (by kernel_rfl) (by kernel_rfl) (by kernel_rfl) (fun _ _ _ h => h) (Or.inl ⟨by first | (go_simp;done) | rfl,fun X hX => by have h0 := hX.2;go_simp⟩) hHeld ?_
      try simp only [List.getElem_toArray,List.getElem_cons_zero,List.getElem_cons_succ,Act.put,zsA,zsB,zsC]
      obtain ⟨Y0,hY0⟩ : ∃ Y,Y = wr.drew := ⟨_,rfl⟩
      have hY1 : Below wr.heap.size wr Y0 := by rw [hY0];exact Below.drew (Below.refl _ _)
      replace hS := hS.keep hY1
      rw [← hY0] at hHeld ⊢
      clear hY0 hY1 d4 d3
      refine till_ready (rs := [5]) (by kernel_rfl) (by simp) ?_
      refine TillReady.cons (o := _) rfl (fun K hK => ?_) TillReady.nil
      go_simp
      refine (cD.out x Y0 (by have := hx9.out;omega)).mono ?_
      rintro e x1_5 ⟨u,rfl,hua,bx1_5⟩
      obtain ⟨pa,pc,rfl,-,-,-⟩ := Rd.form hua
      rw [digI_len] at hua ⊢
      replace hS := hS.keep bx1_5
      go_wp2_with fail
      refine hK.out _ _ ⟨Bel.cellOf bx1_5 hHeld.1,Bel.cellOf bx1_5 hHeld.2⟩ (fun hHeld => ?_)
      clear hK K bx1_5
      try simp only [List.getElem_toArray,List.getElem_cons_zero,List.getElem_cons_succ,Act.put,zsA,zsB,zsC]
      refine till_ready (rs := [11]) (by kernel_rfl) (by simp) ?_
      refine TillReady.cons (o := _) rfl (fun K hK => ?_) TillReady.nil
      go_simp
      refine (cD.out y x1_5 (by have := hy9.out;omega)).mono ?_
      rintro e x2_11 ⟨v,rfl,hub,bx2_11⟩
      obtain ⟨qa,qc,rfl,-,-,-⟩ := Rd.form hub
      rw [digI_len] at hub ⊢
      replace hS := hS.keep bx2_11
      replace hua := Rd.below hua bx2_11
      go_wp2_with fail
      refine hK.out _ _ ⟨Bel.cellOf bx2_11 hHeld.1,Bel.cellOf bx2_11 hHeld.2⟩ (fun hHeld => ?_)
      clear hK K bx2_11
      try simp only [List.getElem_toArray,List.getElem_cons_zero,List.getElem_cons_succ,Act.put,zsA,zsB,zsC]
      refine' till_pure (i := 12) (oi := _) (v := .slice pa n pc) rfl (by kernel_rfl) (by kernel_rfl) (by kernel_rfl) (by kernel_rfl) (fun _ _ _ h => h) (Or.inl ⟨by first | (go_simp;done) | rfl,fun X _ => by go_simp⟩) hHeld ?_
      try simp only [List.getElem_toArray,List.getElem_cons_zero,List.getElem_cons_succ,Act.put,zsA,zsB,zsC]
      refine till_ready (rs := [13]) (by kernel_rfl) (by simp) ?_
      refine TillReady.last (o := _) rfl (by kernel_rfl) (fun K hK => ?_) TillReady.nil
      go_simp
      refine hK.out _ _ ?_
      clear hK K
      try simp only [List.getElem_toArray,List.getElem_cons_zero,List.getElem_cons_succ,Act.put,zsA,zsB,zsC]
      refine till_done (by kernel_rfl) ?_ _
      go_simp
      go_wp2_with fail
      go_meet
      exact ⟨pa,pc,qa,qc,rfl,rfl,hua,hub,hS⟩
     case rest =>
      clear hS d3 d4
      obtain ⟨pa,pc,qa,qc,rfl,rfl,hua,hub,hS⟩ := hcut
      have la : (digI q n x).length = n := digI_len _ _ _
      have lb : (digI q n y).length = n := digI_len _ _ _
      have hm0 := hmet.out x y
      obtain ⟨A,hA⟩ : ∃ A,A = digI q n x := ⟨_,rfl⟩
      obtain ⟨B,hB⟩ : ∃ B,B = digI q n y := ⟨_,rfl⟩
      rw [← hA] at hua la hm0
      rw [← hB] at hub lb hm0
      replace la := hide la
      replace lb := hide lb
      obtain ⟨p,hp⟩ : ∃ p : TierD → Bool,p = fun t => meetB n t A B := ⟨_,rfl⟩
      rw [← hp] at hm0
      have hst0 : Hid (metI g x y = 0 + (g.tiers.drop 0).findIdx p) := by show _ = _;rw [Nat.zero_add];exact hm0
      replace hp := hide hp
      have ct := hS.game.tiers
      clear hm0 hA hB
      obtain ⟨wz,hwz⟩ : ∃ wz,wz = wc := ⟨_,rfl⟩
      subst hwz
      go_wp2
      clear ct
      go_loopg [39] tn (fun gh t wr => ∃ (i : Nat),gh = tn - i ∧ i ≤ tn ∧ t = .int .i64 (i : Int) ∧ Hid (metI g x y = i + (g.tiers.drop i).findIdx p) ∧ Rd I64 wr (.slice pa n pc) A ∧ Rd I64 wr (.slice qa n qc) B ∧ CntS w wr g (.slice aa an ac) (.slice ta tn tc) cb tn fun t => sP g t many x + sQ g t x y)
      case atStart => exact ⟨0,rfl,Nat.zero_le _,rfl,hst0,hua,hub,hS⟩
      case round =>
       clear hst0 hua hub hS
       obtain ⟨i,hgi,hi,rfl,hst,hua,hub,hS⟩ := hrel
       replace hgi := hide hgi
       by_cases hil : i < tn
       ·have hil2 := hide hil
        have hig : i < g.tiers.length := by rw [← htn.out];exact hil
        obtain ⟨b,off,rfl,hbb,hcell⟩ := (hT.out wr hS.bel).at_ hig
        have hst2 := hst.out
        rw [List.drop_eq_getElem_cons hig,List.findIdx_cons] at hst2
        obtain ⟨t,ht⟩ : ∃ t,t = g.tiers[i] := ⟨_,rfl⟩
        have hti : g.tiers[i]? = some t := by rw [ht];exact List.getElem?_eq_getElem hig
        have hmode := hdt.out t (List.mem_of_getElem? hti)
        have hrange : wr.rangeAt b (off + i * 6) (tierCells t) := fun j u hu => hcell i t hti j u hu
        rw [← ht] at hst2
        clear hcell hti ht hst
        have cM2 := hide (fun X h1 h2 => cM.out t (.slice pa n pc) (.slice qa n qc) A B X h1 h2 la.out lb.out hmode)
        rw [show meetB n t A B = p t by rw [hp.out]] at cM2
        obtain ⟨pt,hpt⟩ : ∃ r,r = p t := ⟨_,rfl⟩
        rw [← hpt] at hst2 cM2
        clear hpt hmode
        obtain ⟨tm,tb,tx,tmode,tkind,tvalue⟩ := t
        unfold tierCells at hrange
        unfold tierV at cM2
        simp only [] at hrange cM2
        have hthere := hide (show (wr.alloc (.cells #[.int .i64 0,.int .i64 0,.int .i64 0,.int .i64 0,.int .i64 0,.int .i64 0] 73)).there wr.heap.size 0 6 from Row.there (Row.newOf (cs := [.int .i64 0,.int .i64 0,.int .i64 0,.int .i64 0,.int .i64 0,.int .i64 0]) _ rfl))
        have k1 : (0 : Int) ≤ (i : Int) := by omega
        have k2 : (i : Int) < (tn : Int) := by omega
        replace hst2 := hide hst2
        clear hil
        go_upto_region 12 with (first | (refine wpList_load_mid rfl 73 _ rfl b (off + i * 6) rfl [.int .i64 tm,.int .i64 tb,.int .i64 tx,.int .i64 tmode,.int .i64 tkind,.int .i64 tvalue] _ hrange Tryz.underlying73 rfl (by kernel_rfl) ?_) | (refine wpList_store_mid rfl 73 _ _ rfl wr.heap.size 0 _ rfl rfl hthere.out (by kernel_rfl) (by rfl) ?_) | fail)
        obtain ⟨W1,hW1⟩ : ∃ W1,W1 = wr.alloc (.cells #[.int .i64 tm,.int .i64 tb,.int .i64 tx,.int .i64 tmode,.int .i64 tkind,.int .i64 tvalue] 73) := ⟨_,rfl⟩
        have hb1 : Below wr.heap.size wr W1 := by rw [hW1];exact Bel.al (Below.refl _ _) _
        have hw1 : Row W1 wr.heap.size 73 [.int .i64 tm,.int .i64 tb,.int .i64 tx,.int .i64 tmode,.int .i64 tkind,.int .i64 tvalue] := by rw [hW1];exact Row.newOf _ rfl
        rw [← hW1]
        clear hW1 hthere hrange
        replace hua := Rd.below hua hb1
        replace hub := Rd.below hub hb1
        replace hS := hS.keep hb1
        have cM3 := hide (cM2.out W1 hua hub)
        clear hb1 cM2
        go_wp2_with (first | (refine wpList_load_row rfl 73 _ rfl _ rfl _ _ _ _ hw1 Tryz.underlying73 rfl (by kernel_rfl) ?_) | fail)
        refine cM3.out.mono ?_
        rintro e W2 ⟨rfl,hb2⟩
        replace hua := Rd.below hua hb2
        replace hub := Rd.below hub hb2
        replace hS := hS.keep hb2
        clear hb2 cM3 hw1
        cases pt
        ·have hst3 : Hid (metI g x y = i + 1 + (g.tiers.drop (i + 1)).findIdx p) := by
          have h := hst2.out
          simp only [cond_false] at h
          show _ = _
          omega
         clear hst2
         go_wp2
         go_roundg (tn - (i + 1))
         case measure => have := hgi.out;have := hil2.out;omega
         case rel => exact ⟨i + 1,rfl,by have := hil2.out;omega,by go_num,hst3,hua,hub,hS⟩
        ·have hmi : metI g x y = i := by
          have h := hst2.out
          simp only [cond_true] at h
          omega
         have c5 := hS.cell (t := i) hil2.out
         have f5 := hS.row.frozen i
         have hbd : sP g i many x + sQ g i x y ≤ 2000 := by
          have h1 := sP_le g i many x
          have h2 := sQ_le g i x y
          have h3 : x * many ≤ 40 * 40 := Nat.mul_le_mul (by have := hlt2.out;have := hm9.out;omega) hm9.out
          have := hly2.out
          have := hm9.out
          omega
         have hS2 := (hS.bump (t := i) hil2.out).congr (H := fun t => sP g t many x + sQ g t x (y + 1)) (fun t ht => by
          show sP g t many x + sQ g t x y + (if i = t then 1 else 0) = _
          rw [show sQ g t x (y + 1) = sQ g t x y + (if metI g x y = t then 1 else 0) from rfl,hmi]
          omega)
         obtain ⟨F0,hF0⟩ : ∃ F0,F0 = sP g i many x + sQ g i x y := ⟨_,rfl⟩
         rw [← hF0] at c5 hbd hS2
         have hwr : IntKind.u64.wrap ((F0 : Int) + 1) = ((F0 + 1 : Nat) : Int) := by
          rw [IntKind.wrap_u64]
          omega
         clear hst2 hmi hF0 hS hua hub
         go_wp2
         go_roundg (many - (y + 1))
         case measure => have := hgy.out;have := hly2.out;omega
         case rel => exact ⟨y + 1,rfl,by have := hly2.out;omega,by go_num,hS2⟩
       ·obtain rfl : i = tn := by omega
        have hmi : metI g x y = i := by
         rw [hst.out,List.drop_eq_nil_of_le (by rw [← htn.out];exact Nat.le_refl _)]
         rfl
        have hS2 := hS.congr (H := fun t => sP g t many x + sQ g t x (y + 1)) (fun t ht => by
         rw [show sQ g t x (y + 1) = sQ g t x y + (if metI g x y = t then 1 else 0) from rfl,hmi,if_neg (by omega),Nat.add_zero])
        clear hst hmi hS hua hub
        go_wp2
        go_roundg (many - (y + 1))
        case measure => have := hgy.out;have := hly2.out;omega
        case rel => exact ⟨y + 1,rfl,by have := hly2.out;omega,by go_num,hS2⟩
    ·obtain rfl : y = many := by omega
     have hS2 : CntS w wr g (.slice aa an ac) (.slice ta tn tc) cb tn fun t => sP g t y (x + 1) := hS
     clear hS
     go_wp2
     go_roundg (y - (x + 1))
     case measure => have := hgh.out;have := hlt2.out;omega
     case rel => exact ⟨x + 1,rfl,by have := hlt2.out;omega,by go_num,hS2⟩
  ·obtain rfl : x = many := by omega
   have hrd := hS.row
   have hbel := hS.bel
   clear hS
   go_wp2
   go_ret
   exact ⟨_,rfl,hrd,hbel⟩
set_option maxHeartbeats 8000000 in
set_option maxRecDepth 100000 in
theorem wins35_any (g : GameD) (av tv : Value) (ms : List AddonM) (m x b' : Int) (w : World) (rg : GameR w av tv ms g) :
  Calls Tryz.prog 59 #[gameVal g av tv,.int .i64 m,.int .i64 b',.int .i64 x] w (IntB (firstGo (hitT m x b') g.tiers 0) w) := by
 have hT := hide rg.2.2
 obtain ⟨P,hP⟩ : ∃ P,P = hitT m x b' := ⟨_,rfl⟩
 rw [← hP]
 replace hP := hide hP
 obtain ⟨R,hR⟩ : ∃ R,R = firstGo P g.tiers 0 := ⟨_,rfl⟩
 rw [← hR]
 have hR0 : Hid (firstGo P (g.tiers.drop 0) 0 = R) := by show _ = _;rw [hR];rfl
 clear hR
 obtain ⟨aa,ac,rfl,hal,ham⟩ := rg.1.1.shape
 obtain ⟨ta,tc,rfl,htl,htm⟩ := rg.2.2.shape
 obtain ⟨an,han⟩ : ∃ an,an = ms.length := ⟨_,rfl⟩
 obtain ⟨tn,htn⟩ : ∃ tn,tn = g.tiers.length := ⟨_,rfl⟩
 have htb : g.tiers.length ≤ 9223372036854775807 := by
  obtain ⟨_,c,_,h1,h2,_⟩ := hT.out
  unfold maxLen at h2
  omega
 rw [← htn] at hT htb
 rw [← han,← htn]
 have htbi : (tn : Int) ≤ 9223372036854775807 := by omega
 replace htn := hide htn
 clear rg hal htl ham htm han
 unfold gameVal
 go_enter Tryz.func59,Tryz.ntmps59
 go_upto_region 1 with (fail)
 obtain ⟨W,hW⟩ : ∃ W,W = w.alloc (Obj.cells #[.string g.name,.int .i64 g.kind,.int .i64 g.price,.int .i64 g.main,.int .i64 g.of,.int .i64 g.bonus,.int .i64 g.bonusOf,.int .i64 g.extra,.int .i64 g.draws,.int .i64 g.system,.int .i64 g.days,.int .i64 g.at_,.int .i64 g.close,.int .i64 g.cancel,.int .i64 g.expiry,.int .i64 g.pool,.int .i64 g.reserve,.int .i64 g.round,.int .i64 g.cap,.int .i64 g.rolls,(.slice aa an ac),(.slice ta tn tc)] 25) := ⟨_,rfl⟩
 have bW : Below w.heap.size w W := by rw [hW];exact Bel.al (Below.refl _ _) _
 have r0 : GameAt W w.heap.size g (.slice aa an ac) (.slice ta tn tc) := by rw [hW];exact Row.new _ _ _
 rw [← hW]
 clear hW
 have ct := r0.tiers
 clear r0
 go_wp2
 go_loopw [14] (fun ti wr => ∃ (i : Nat),i ≤ tn ∧ ti = .int .i64 (i : Int) ∧ Hid (firstGo P (g.tiers.drop i) i = R) ∧ Below W.heap.size W wr) (fun ti _ => tn - (intOf ti).toNat)
 case atStart => exact ⟨0,Nat.zero_le _,rfl,hR0,Below.refl _ _⟩
 case round =>
  obtain ⟨i,hi,rfl,hG,hB⟩ := hrel
  replace ct := Bel.cellOf hB ct
  by_cases hlt : i < tn
  ·have hlt2 := hide hlt
   have hil : i < g.tiers.length := by rw [← htn.out];exact hlt
   obtain ⟨b,off,rfl,hbb,hcell⟩ := (hT.out.below (Bel.to bW hB)).at_ hil
   have hG2 := hG.out
   rw [List.drop_eq_getElem_cons hil,firstGo] at hG2
   have i2 : (i : Int) < (tn : Int) := by omega
   obtain ⟨t,ht⟩ : ∃ t,t = g.tiers[i] := ⟨_,rfl⟩
   have hti : g.tiers[i]? = some t := by rw [ht];exact List.getElem?_eq_getElem hil
   have hrange : wr.rangeAt b (off + i * 6) (tierCells t) := fun j u hu => hcell i t hti j u hu
   rw [← ht] at hG2
   clear hcell hti ht
   obtain ⟨tm,tb,tx,tmode,tkind,tvalue⟩ := t
   unfold tierCells at hrange
   simp only [] at hrange
   have hthere := hide (show (wr.alloc (.cells #[.int .i64 0,.int .i64 0,.int .i64 0,.int .i64 0,.int .i64 0,.int .i64 0] 73)).there wr.heap.size 0 6 from Row.there (Row.newOf (cs := [.int .i64 0,.int .i64 0,.int .i64 0,.int .i64 0,.int .i64 0,.int .i64 0]) _ rfl))
   have i1 : (0 : Int) ≤ (i : Int) := by omega
   go_upto_region 4 with (first | (refine wpList_load_mid rfl 73 _ rfl b (off + i * 6) rfl [.int .i64 tm,.int .i64 tb,.int .i64 tx,.int .i64 tmode,.int .i64 tkind,.int .i64 tvalue] _ hrange Tryz.underlying73 rfl (by kernel_rfl) ?_) | (refine wpList_store_mid rfl 73 _ _ rfl wr.heap.size 0 _ rfl rfl hthere.out (by kernel_rfl) (by rfl) ?_) | fail)
   obtain ⟨W1,hW1⟩ : ∃ W1,W1 = wr.alloc (.cells #[.int .i64 tm,.int .i64 tb,.int .i64 tx,.int .i64 tmode,.int .i64 tkind,.int .i64 tvalue] 73) := ⟨_,rfl⟩
   have hb1 : Below wr.heap.size wr W1 := by rw [hW1];exact Bel.al (Below.refl _ _) _
   have hw1 : Row W1 wr.heap.size 73 [.int .i64 tm,.int .i64 tb,.int .i64 tx,.int .i64 tmode,.int .i64 tkind,.int .i64 tvalue] := by rw [hW1];exact Row.newOf _ rfl
   rw [← hW1]
   clear hW1 hthere hrange
   have q0 : W1.cell? ⟨wr.heap.size,0,none⟩ = some (.int .i64 tm) := (hw1.cell? 0).trans rfl
   have q1 : W1.cell? ⟨wr.heap.size,1,none⟩ = some (.int .i64 tb) := (hw1.cell? 1).trans rfl
   have q2 : W1.cell? ⟨wr.heap.size,2,none⟩ = some (.int .i64 tx) := (hw1.cell? 2).trans rfl
   have q3 : W1.cell? ⟨wr.heap.size,3,none⟩ = some (.int .i64 tmode) := (hw1.cell? 3).trans rfl
   clear hw1
   clear hG
   by_cases h1 : tm ≤ m
   ·by_cases h3 : tb ≤ b'
    ·by_cases h2 : tx ≤ x
     ·have hfin : Hid ((i : Int) = R) := by
       show _ = _
       rw [← hG2,if_pos]
       rw [hP.out]
       unfold hitT
       simp [h1,h2,h3]
      clear hG2
      go_wp2
      go_ret
      exact ⟨by rw [← hfin.out];rfl,Bel.to bW (Bel.to hB hb1)⟩
     ·skip
      have hG3 : Hid (firstGo P (g.tiers.drop (i + 1)) (i + 1) = R) := by
       show _ = _
       rw [← hG2,if_neg]
       rw [hP.out];unfold hitT
       simp only []
       simp [h2]
      clear hG2
      go_wp2
      go_roundw
      case rel => exact ⟨i + 1,by have := hlt2.out;omega,by (have := hlt2.out;go_num),hG3,Bel.to hB hb1⟩
      case measure => simp [intOf];have := hlt2.out;omega
    ·skip
     have hG3 : Hid (firstGo P (g.tiers.drop (i + 1)) (i + 1) = R) := by
      show _ = _
      rw [← hG2,if_neg]
      rw [hP.out];unfold hitT
      simp only []
      simp [h3]
     clear hG2
     go_wp2
     go_roundw
     case rel => exact ⟨i + 1,by have := hlt2.out;omega,by (have := hlt2.out;go_num),hG3,Bel.to hB hb1⟩
     case measure => simp [intOf];have := hlt2.out;omega
   ·skip
    have hG3 : Hid (firstGo P (g.tiers.drop (i + 1)) (i + 1) = R) := by
     show _ = _
     rw [← hG2,if_neg]
     rw [hP.out];unfold hitT
     simp only []
     simp [h1]
    clear hG2
    go_wp2
    go_roundw
    case rel => exact ⟨i + 1,by have := hlt2.out;omega,by (have := hlt2.out;go_num),hG3,Bel.to hB hb1⟩
    case measure => simp [intOf];have := hlt2.out;omega
  ·obtain rfl : i = tn := by omega
   have hfin : Hid ((-1 : Int) = R) := by
    show _ = _
    rw [← hG.out,List.drop_eq_nil_of_le (by rw [← htn.out];exact Nat.le_refl _)]
    rfl
   clear hG
   go_wp2
   go_ret
   exact ⟨by rw [← hfin.out];rfl,Bel.to bW hB⟩
end Go.Proofs.YtldikghldcefcaaGreat
end

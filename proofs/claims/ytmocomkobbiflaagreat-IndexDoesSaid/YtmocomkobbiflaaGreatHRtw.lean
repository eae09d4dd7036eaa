/- Lemmas, merged out of smaller texts (wip/tools/mergedce.py). No condition. -/
import Derived.BigQuiet
import Derived.Test.YtmocomkobbiflaaGreatHWin
import Derived.Test.YtmocomkobbiflaaGreatHRdr
import Derived.Test.YtmocomkobbiflaaGreatHLine
section
open Go.RowKit
set_option linter.unusedVariables false
set_option linter.unusedSimpArgs false
namespace Go.Proofs.YtmocomkobbiflaaGreat
theorem equal_next {a b : List Int} {i n : Nat} (hi : i < n) (ha : n ≤ a.length) (hb : n ≤ b.length) :
  ((a.take n).drop i = (b.take n).drop i) ↔ (a[i]'(by omega) = b[i]'(by omega) ∧ (a.take n).drop (i + 1) = (b.take n).drop (i + 1)) := by
 rw [List.drop_eq_getElem_cons (show i < (a.take n).length by rw [List.length_take];omega),List.drop_eq_getElem_cons (show i < (b.take n).length by rw [List.length_take];omega),List.getElem_take,List.getElem_take]
 constructor
 ·intro h
  injection h with h1 h2
  exact ⟨h1,h2⟩
 ·rintro ⟨h1,h2⟩
  rw [h1,h2]
set_option maxHeartbeats 2000000 in
set_option maxRecDepth 100000 in
theorem equal32_any (u v : Value) (a b : List Int) (fr n : Nat) (w : World) (ha : Rd I64 w u a) (hb : Rd I64 w v b) (h1 : fr + n ≤ a.length) (h2 : fr + n ≤ b.length) :
  Calls Tryz.prog 168 #[u,v,.int .i64 (fr : Int),.int .i64 (n : Int)] w (BoolB (decide ((a.take (fr + n)).drop fr = (b.take (fr + n)).drop fr)) w) := by
 obtain ⟨ao,ac,rfl,hal,ham,hra⟩ := Rd.form ha
 obtain ⟨bo,bc,rfl,hbl,hbm,hrb⟩ := Rd.form hb
 obtain ⟨R,hR⟩ : ∃ R,R = decide ((a.take (fr + n)).drop fr = (b.take (fr + n)).drop fr) := ⟨_,rfl⟩
 rw [← hR]
 obtain ⟨na,hna⟩ : ∃ x,x = a.length := ⟨_,rfl⟩
 obtain ⟨nb,hnb⟩ : ∃ x,x = b.length := ⟨_,rfl⟩
 obtain ⟨m,hm⟩ : ∃ m,m = fr + n := ⟨_,rfl⟩
 have hmi : IntKind.i64.wrap ((fr : Int) + (n : Int)) = (m : Int) := by rw [IntWalk.i64_in _ (by unfold maxLen at ham;omega)];omega
 have hm1 : m ≤ na := by omega
 have hm2 : m ≤ nb := by omega
 have hna63 : (na : Int) ≤ 9223372036854775807 := by unfold maxLen at ham;omega
 have hfm : fr ≤ m := by omega
 rw [← hm] at hR
 rw [← hna,← hnb]
 replace hna := hide hna
 replace hnb := hide hnb
 replace hm := hide hm
 replace hR := hide hR
 clear ha hb hal ham hbl hbm h1 h2
 go_enter Tryz.func168,Tryz.ntmps168
 go_wp2
 go_loopg [9] (m - fr) (fun gh t wr => ∃ (i d : Nat),gh = m - i ∧ fr ≤ i ∧ i ≤ m ∧ t = .int .i64 (i : Int) ∧ wr = w.drewN d ∧ Hid (R = decide ((a.take m).drop i = (b.take m).drop i)))
 case atStart => exact ⟨fr,0,rfl,Nat.le_refl _,hfm,rfl,rfl,hR.out⟩
 case round =>
  obtain ⟨i,d,hgh,hfi,hi,rfl,rfl,hR⟩ := hrel
  replace hgh := hide hgh
  by_cases hlt : i < m
  ·have hlt2 := hide hlt
   have ia : i < a.length := by rw [← hna.out];omega
   have ib : i < b.length := by rw [← hnb.out];omega
   obtain ⟨ba,oa,rfl,hba,hca⟩ := hra.at_ ia
   obtain ⟨bb,ob,rfl,hbb,hcb⟩ := hrb.at_ ib
   have hnx := equal_next (a := a) (b := b) hlt (by rw [← hna.out];exact hm1) (by rw [← hnb.out];exact hm2)
   obtain ⟨x,hx,c1⟩ : ∃ x,x = a[i] ∧ w.cell? ⟨ba,oa + i,none⟩ = some (.int .i64 x) := ⟨_,rfl,hca _ ia⟩
   obtain ⟨y,hy,c2⟩ : ∃ y,y = b[i] ∧ w.cell? ⟨bb,ob + i,none⟩ = some (.int .i64 y) := ⟨_,rfl,hcb _ ib⟩
   rw [← hx,← hy] at hnx
   have i1 : (0 : Int) ≤ (i : Int) := by omega
   have i2 : (i : Int) < (m : Int) := by omega
   have i3 : (i : Int) < (na : Int) := by omega
   have i4 : (i : Int) < (nb : Int) := by omega
   clear hca hcb
   replace hx := hide hx
   replace hy := hide hy
   by_cases he : x = y
   ·have hb1 : (x != y) = false := by simpa using he
    have hR2 : Hid (R = decide ((a.take m).drop (i + 1) = (b.take m).drop (i + 1))) := by
     show R = _
     rw [hR.out]
     exact decide_eq_decide.2 (hnx.trans ⟨fun h => h.2,fun h => ⟨he,h⟩⟩)
    replace he := hide he
    clear hnx hR
    go_wp2
    go_quiet (fail)
    go_wp2
    go_roundg (m - (i + 1))
    case measure => have := hgh.out;have := hlt2.out;omega
    case rel => exact ⟨i + 1,_,rfl,by omega,by have := hlt2.out;omega,by go_num,rfl,hR2⟩
   ·have hb1 : (x != y) = true := by simpa using he
    have hR2 : R = false := by
     rw [hR.out]
     exact decide_eq_false (fun h => he (hnx.1 h).1)
    subst hR2
    replace he := hide he
    clear hnx hR
    go_wp2
    go_quiet (fail)
    go_wp2
    go_ret
    first | exact ⟨rfl,Bel.drN (Bel.drN (Below.refl _ _) _) _⟩ | exact ⟨rfl,Bel.drN (Below.refl _ _) _⟩
  ·have him : i = m := by omega
   have hR2 : R = true := by
    rw [hR.out,him]
    refine decide_eq_true ?_
    rw [List.drop_eq_nil_of_le (by rw [List.length_take];omega),List.drop_eq_nil_of_le (by rw [List.length_take];omega)]
   subst hR2
   have i2 : ¬ (i : Int) < (m : Int) := by omega
   replace him := hide him
   clear hR
   go_wp2
   go_ret
   exact ⟨rfl,Bel.drN (Below.refl _ _) _⟩
def oft (l : List Int) (x : Int) : Nat := l.countP fun y => decide (y = x)
theorem oft_snoc (l : List Int) (y x : Int) : oft (l ++ [y]) x = oft l x + if y = x then 1 else 0 := by
 unfold oft
 rw [List.countP_append,List.countP_cons,List.countP_nil]
 simp
set_option maxHeartbeats 2000000 in
set_option maxRecDepth 100000 in
theorem often32_any (u : Value) (a : List Int) (x : Int) (w : World) (ha : Rd I64 w u a) :
  Calls Tryz.prog 169 #[u,.int .i64 x] w (Pure (.int .i64 (oft a x : Int)) w) := by
 obtain ⟨ao,ac,rfl,hal,ham,hra⟩ := Rd.form ha
 obtain ⟨R,hR⟩ : ∃ R,R = oft a x := ⟨_,rfl⟩
 rw [← hR]
 obtain ⟨n,hn⟩ : ∃ n,n = a.length := ⟨_,rfl⟩
 have hn63 : (n : Int) ≤ 9223372036854775807 := by unfold maxLen at ham;omega
 rw [← hn]
 replace hn := hide hn
 replace hR := hide hR
 clear ha hal ham
 go_enter Tryz.func169,Tryz.ntmps169
 go_wp2
 go_loopg [5,6] n (fun gh t5 t6 wr => ∃ (i c : Nat),gh = n - i ∧ i ≤ n ∧ t6 = .int .i64 (i : Int) ∧ t5 = .int .i64 (c : Int) ∧ c ≤ i ∧ Hid (c = oft (a.take i) x) ∧ w = wr)
 case atStart => exact ⟨0,0,rfl,Nat.zero_le _,rfl,rfl,Nat.le_refl _,rfl,rfl⟩
 case round =>
  obtain ⟨i,c,hgh,hi,rfl,rfl,hci,hc,rfl⟩ := hrel
  replace hgh := hide hgh
  by_cases hlt : i < n
  ·have hlt2 := hide hlt
   have ia : i < a.length := by rw [← hn.out];exact hlt
   obtain ⟨ba,oa,rfl,hba,hca⟩ := hra.at_ ia
   obtain ⟨y,hy,c1⟩ : ∃ y,y = a[i] ∧ w.cell? ⟨ba,oa + i,none⟩ = some (.int .i64 y) := ⟨_,rfl,hca _ ia⟩
   have hsn : oft (a.take (i + 1)) x = c + if y = x then 1 else 0 := by rw [List.take_succ_eq_append_getElem ia,← hy,oft_snoc,← hc.out]
   have i1 : (0 : Int) ≤ (i : Int) := by omega
   have i2 : (i : Int) < (n : Int) := by omega
   clear hca hc
   replace hy := hide hy
   by_cases he : y = x
   ·have hb1 : (y == x) = true := by simpa using he
    rw [if_pos he] at hsn
    have hsn2 : Hid (c + 1 = oft (a.take (i + 1)) x) := hsn.symm
    have hc9 : c + 1 ≤ i + 1 := by omega
    replace he := hide he
    clear hsn
    go_wp2
    go_roundg (n - (i + 1))
    case measure => have := hgh.out;have := hlt2.out;omega
    case rel => exact ⟨i + 1,c + 1,rfl,by have := hlt2.out;omega,by go_num,by go_num,hc9,hsn2,rfl⟩
   ·have hb1 : (y == x) = false := by simpa using he
    rw [if_neg he] at hsn
    have hsn2 : Hid (c = oft (a.take (i + 1)) x) := hsn.symm
    have hc9 : c ≤ i + 1 := by omega
    replace he := hide he
    clear hsn
    go_wp2
    go_roundg (n - (i + 1))
    case measure => have := hgh.out;have := hlt2.out;omega
    case rel => exact ⟨i + 1,c,rfl,by have := hlt2.out;omega,by go_num,rfl,hc9,hsn2,rfl⟩
  ·have hin : i = a.length := by have := hn.out;omega
   have hc2 := hc.out
   rw [hin,List.take_length,← hR.out] at hc2
   subst hc2
   have i2 : ¬ (i : Int) < (n : Int) := by have := hn.out;omega
   replace hin := hide hin
   clear hc
   go_wp2
   go_ret
   exact ⟨rfl,rfl⟩
theorem oft_count (l : List Int) (x : Int) : oft l x = l.count x := by
 unfold oft List.count
 refine List.countP_congr (fun y _ => ?_)
 simp
theorem take_all {l : List Int} {n : Nat} (h : l.length = n) : l.take (0 + n) = l := by rw [Nat.zero_add,← h,List.take_length]
set_option maxHeartbeats 4000000 in
set_option maxRecDepth 100000 in
theorem digits32_box (n0 : Int) (u v : Value) (a b : List Int) (w : World) (ha : Rd I64 w u a) (hb : Rd I64 w v b) (hl : b.length = a.length) :
  Calls Tryz.prog 141 #[.int .i64 2,.int .i64 n0,u,v] w (BoolB (decide (sortI a = sortI b)) w) := by
 have hoA := hide (fun X (hX : Below w.heap.size w X) (x : Int) => often32_any u a x X (ha.below hX))
 have hoB := hide (fun X (hX : Below w.heap.size w X) (x : Int) => often32_any v b x X (hb.below hX))
 obtain ⟨ao,ac,rfl,hal,ham,hra⟩ := Rd.form ha
 obtain ⟨bo,bc,rfl,hbl,hbm,-⟩ := Rd.form hb
 obtain ⟨R,hR⟩ : ∃ R,R = decide (sortI a = sortI b) := ⟨_,rfl⟩
 rw [← hR]
 have hR2 : R = decide (∀ x ∈ a,oft a x = oft b x) := by
  rw [hR]
  refine decide_eq_decide.2 ((box_iff hl).symm.trans ?_)
  constructor
  ·intro h x hx;rw [oft_count,oft_count];exact h x hx
  ·intro h x hx;have := h x hx;rwa [oft_count,oft_count] at this
 obtain ⟨n,hn⟩ : ∃ x,x = a.length := ⟨_,rfl⟩
 rw [hl,← hn] at hoB ⊢
 rw [← hn] at hoA
 have hn63 : (n : Int) ≤ 9223372036854775807 := by unfold maxLen at ham;omega
 have hnn : ((n : Int) != (n : Int)) = false := by simp
 replace hn := hide hn
 replace hR2 := hide hR2
 clear ha hb hal ham hbl hbm hR hl
 go_enter Tryz.func141,Tryz.ntmps141
 go_wp2
 go_loopg [9] n (fun gh t wr => ∃ (i d : Nat),gh = n - i ∧ i ≤ n ∧ t = .int .i64 (i : Int) ∧ wr = w.drewN d ∧ Hid (∀ x ∈ a.take i,oft a x = oft b x))
 case atStart => exact ⟨0,0,rfl,Nat.zero_le _,rfl,rfl,(by intro x hx;simp at hx)⟩
 case round =>
  obtain ⟨i,d,hgh,hi,rfl,rfl,hall⟩ := hrel
  replace hgh := hide hgh
  by_cases hlt : i < n
  ·have hlt2 := hide hlt
   have ia : i < a.length := by rw [← hn.out];exact hlt
   obtain ⟨ba,oa,rfl,hba,hca⟩ := hra.at_ ia
   obtain ⟨x,hx⟩ : ∃ x,x = a[i] := ⟨_,rfl⟩
   have cx : (w.drewN d).drew.cell? ⟨ba,oa + i,none⟩ = some (.int .i64 x) := by rw [hx];exact hca i ia
   have hxm : x ∈ a := by rw [hx];exact List.getElem_mem ia
   have hsn : a.take (i + 1) = a.take i ++ [x] := by rw [List.take_succ_eq_append_getElem ia,hx]
   have BD : Below w.heap.size w ((w.drewN d).drew) := Bel.drN (Bel.drN (Below.refl _ _) d) 1
   have cA := hide (hoA.out _ BD x)
   have cB := hide (hoB.out _ BD x)
   have i1 : (0 : Int) ≤ (i : Int) := by omega
   have i2 : (i : Int) < (n : Int) := by omega
   clear hca hx
   by_cases he : oft a x = oft b x
   ·have hb1 : ((oft a x : Int) != (oft b x : Int)) = false := by simp [he]
    have hall2 : Hid (∀ x ∈ a.take (i + 1),oft a x = oft b x) := by
     show ∀ x ∈ a.take (i + 1),oft a x = oft b x
     intro y hy
     rw [hsn] at hy
     rcases List.mem_append.1 hy with hy | hy
     ·exact hall.out y hy
     ·rcases List.mem_singleton.1 hy with rfl;exact he
    replace he := hide he
    replace hsn := hide hsn
    replace hxm := hide hxm
    obtain ⟨p,hp⟩ : ∃ p,p = oft a x := ⟨_,rfl⟩
    obtain ⟨q,hq⟩ : ∃ q,q = oft b x := ⟨_,rfl⟩
    rw [← hp] at cA hb1
    rw [← hq] at cB hb1
    clear hp hq
    go_upto_region 9 with (fail)
    refine wp_region_held_drew (S := fun X => X.cell? ⟨ba,oa + i,none⟩ = some (.int .i64 x)) (by kernel_rfl) (cx) (fun hHeld => ?_)
    refine' wpAnyH_take (i := 0) (oi := _) (v := .slice (some ⟨ba,oa,none⟩) n ac) rfl (by kernel_rfl) (by kernel_rfl) (by kernel_rfl) (fun _ _ _ h => h) (Or.inl ⟨by first | (go_simp;done) | rfl,fun X _ => by go_simp⟩) hHeld ?_
    try simp only [Act.put,zsA,zsB,zsC]
    refine' wpAnyH_take (i := 1) (oi := _) (v := .slice (some ⟨ba,oa,none⟩) n ac) rfl (by kernel_rfl) (by kernel_rfl) (by kernel_rfl) (fun _ _ _ h => h) (Or.inl ⟨by first | (go_simp;done) | rfl,fun X _ => by go_simp⟩) hHeld ?_
    try simp only [Act.put,zsA,zsB,zsC]
    refine' wpAnyH_take (i := 2) (oi := _) (v := .int .i64 (i : Int)) rfl (by kernel_rfl) (by kernel_rfl) (by kernel_rfl) (fun _ _ _ h => h) (Or.inl ⟨by first | (go_simp;done) | rfl,fun X _ => by go_simp⟩) hHeld ?_
    try simp only [Act.put,zsA,zsB,zsC]
    refine' wpAnyH_take (i := 3) (oi := _) (v := .pointer (some ⟨ba,oa + i,none⟩)) rfl (by kernel_rfl) (by kernel_rfl) (by kernel_rfl) (fun _ _ _ h => h) (Or.inl ⟨by first | (go_simp;done) | rfl,fun X _ => by go_simp⟩) hHeld ?_
    try simp only [Act.put,zsA,zsB,zsC]
    refine' wpAnyH_take (i := 4) (oi := _) (v := .int .i64 x) rfl (by kernel_rfl) (by kernel_rfl) (by kernel_rfl) (fun _ _ _ h => h) (Or.inl ⟨by first | (go_simp;done) | rfl,fun X hX => by have cX := hX;go_simp⟩) hHeld ?_
    try simp only [Act.put,zsA,zsB,zsC]
    refine' wpAnyH_take (i := 6) (oi := _) (v := .slice bo n bc) rfl (by kernel_rfl) (by kernel_rfl) (by kernel_rfl) (fun _ _ _ h => h) (Or.inl ⟨by first | (go_simp;done) | rfl,fun X _ => by go_simp⟩) hHeld ?_
    try simp only [Act.put,zsA,zsB,zsC]
    refine' wpAnyH_take (i := 7) (oi := _) (v := .slice (some ⟨ba,oa,none⟩) n ac) rfl (by kernel_rfl) (by kernel_rfl) (by kernel_rfl) (fun _ _ _ h => h) (Or.inl ⟨by first | (go_simp;done) | rfl,fun X _ => by go_simp⟩) hHeld ?_
    try simp only [Act.put,zsA,zsB,zsC]
    refine' wpAnyH_take (i := 8) (oi := _) (v := .int .i64 (i : Int)) rfl (by kernel_rfl) (by kernel_rfl) (by kernel_rfl) (fun _ _ _ h => h) (Or.inl ⟨by first | (go_simp;done) | rfl,fun X _ => by go_simp⟩) hHeld ?_
    try simp only [Act.put,zsA,zsB,zsC]
    refine' wpAnyH_take (i := 9) (oi := _) (v := .pointer (some ⟨ba,oa + i,none⟩)) rfl (by kernel_rfl) (by kernel_rfl) (by kernel_rfl) (fun _ _ _ h => h) (Or.inl ⟨by first | (go_simp;done) | rfl,fun X _ => by go_simp⟩) hHeld ?_
    try simp only [Act.put,zsA,zsB,zsC]
    refine' wpAnyH_take (i := 10) (oi := _) (v := .int .i64 x) rfl (by kernel_rfl) (by kernel_rfl) (by kernel_rfl) (fun _ _ _ h => h) (Or.inl ⟨by first | (go_simp;done) | rfl,fun X hX => by have cX := hX;go_simp⟩) hHeld ?_
    try simp only [Act.put,zsA,zsB,zsC]
    refine wpAnyH_ready (rs := [5]) (by kernel_rfl) (by simp) ?_
    refine AllReadyH.cons (o := _) rfl (fun K hK => ?_) AllReadyH.nil
    go_simp
    refine (cA.out).mono ?_
    rintro e w9 ⟨rfl,rfl⟩
    go_wp2_with fail
    refine hK.out _ _ hHeld (fun hHeld => ?_)
    clear hK K
    try simp only [Act.put,zsA,zsB,zsC]
    refine wpAnyH_ready (rs := [11]) (by kernel_rfl) (by simp) ?_
    refine AllReadyH.cons (o := _) rfl (fun K hK => ?_) AllReadyH.nil
    go_simp
    refine (cB.out).mono ?_
    rintro e w9 ⟨rfl,rfl⟩
    go_wp2_with fail
    refine hK.out _ _ hHeld (fun hHeld => ?_)
    clear hK K
    try simp only [Act.put,zsA,zsB,zsC]
    refine' wpAnyH_take (i := 12) (oi := _) (v := .bool false) rfl (by kernel_rfl) (by kernel_rfl) (by kernel_rfl) (fun _ _ _ h => h) (Or.inl ⟨by first | (go_simp;done) | rfl,fun X _ => by go_simp⟩) hHeld ?_
    try simp only [Act.put,zsA,zsB,zsC]
    refine wpAnyH_done (by kernel_rfl) ?_ _
    go_simp
    clear hHeld
    go_wp2
    go_roundg (n - (i + 1))
    case measure => have := hgh.out;have := hlt2.out;omega
    case rel => exact ⟨i + 1,d + 1,rfl,by have := hlt2.out;omega,by go_num,rfl,hall2⟩
   ·have hb1 : ((oft a x : Int) != (oft b x : Int)) = true := by simp;omega
    have hR3 : R = false := by
     rw [hR2.out]
     exact decide_eq_false (fun h => he (h x hxm))
    subst hR3
    replace he := hide he
    replace hsn := hide hsn
    replace hxm := hide hxm
    obtain ⟨p,hp⟩ : ∃ p,p = oft a x := ⟨_,rfl⟩
    obtain ⟨q,hq⟩ : ∃ q,q = oft b x := ⟨_,rfl⟩
    rw [← hp] at cA hb1
    rw [← hq] at cB hb1
    clear hp hq
    go_upto_region 9 with (fail)
    refine wp_region_held_drew (S := fun X => X.cell? ⟨ba,oa + i,none⟩ = some (.int .i64 x)) (by kernel_rfl) (cx) (fun hHeld => ?_)
    refine' wpAnyH_take (i := 0) (oi := _) (v := .slice (some ⟨ba,oa,none⟩) n ac) rfl (by kernel_rfl) (by kernel_rfl) (by kernel_rfl) (fun _ _ _ h => h) (Or.inl ⟨by first | (go_simp;done) | rfl,fun X _ => by go_simp⟩) hHeld ?_
    try simp only [Act.put,zsA,zsB,zsC]
    refine' wpAnyH_take (i := 1) (oi := _) (v := .slice (some ⟨ba,oa,none⟩) n ac) rfl (by kernel_rfl) (by kernel_rfl) (by kernel_rfl) (fun _ _ _ h => h) (Or.inl ⟨by first | (go_simp;done) | rfl,fun X _ => by go_simp⟩) hHeld ?_
    try simp only [Act.put,zsA,zsB,zsC]
    refine' wpAnyH_take (i := 2) (oi := _) (v := .int .i64 (i : Int)) rfl (by kernel_rfl) (by kernel_rfl) (by kernel_rfl) (fun _ _ _ h => h) (Or.inl ⟨by first | (go_simp;done) | rfl,fun X _ => by go_simp⟩) hHeld ?_
    try simp only [Act.put,zsA,zsB,zsC]
    refine' wpAnyH_take (i := 3) (oi := _) (v := .pointer (some ⟨ba,oa + i,none⟩)) rfl (by kernel_rfl) (by kernel_rfl) (by kernel_rfl) (fun _ _ _ h => h) (Or.inl ⟨by first | (go_simp;done) | rfl,fun X _ => by go_simp⟩) hHeld ?_
    try simp only [Act.put,zsA,zsB,zsC]
    refine' wpAnyH_take (i := 4) (oi := _) (v := .int .i64 x) rfl (by kernel_rfl) (by kernel_rfl) (by kernel_rfl) (fun _ _ _ h => h) (Or.inl ⟨by first | (go_simp;done) | rfl,fun X hX => by have cX := hX;go_simp⟩) hHeld ?_
    try simp only [Act.put,zsA,zsB,zsC]
    refine' wpAnyH_take (i := 6) (oi := _) (v := .slice bo n bc) rfl (by kernel_rfl) (by kernel_rfl) (by kernel_rfl) (fun _ _ _ h => h) (Or.inl ⟨by first | (go_simp;done) | rfl,fun X _ => by go_simp⟩) hHeld ?_
    try simp only [Act.put,zsA,zsB,zsC]
    refine' wpAnyH_take (i := 7) (oi := _) (v := .slice (some ⟨ba,oa,none⟩) n ac) rfl (by kernel_rfl) (by kernel_rfl) (by kernel_rfl) (fun _ _ _ h => h) (Or.inl ⟨by first | (go_simp;done) | rfl,fun X _ => by go_simp⟩) hHeld ?_
    try simp only [Act.put,zsA,zsB,zsC]
    refine' wpAnyH_take (i := 8) (oi := _) (v := .int .i64 (i : Int)) rfl (by kernel_rfl) (by kernel_rfl) (by kernel_rfl) (fun _ _ _ h => h) (Or.inl ⟨by first | (go_simp;done) | rfl,fun X _ => by go_simp⟩) hHeld ?_
    try simp only [Act.put,zsA,zsB,zsC]
    refine' wpAnyH_take (i := 9) (oi := _) (v := .pointer (some ⟨ba,oa + i,none⟩)) rfl (by kernel_rfl) (by kernel_rfl) (by kernel_rfl) (fun _ _ _ h => h) (Or.inl ⟨by first | (go_simp;done) | rfl,fun X _ => by go_simp⟩) hHeld ?_
    try simp only [Act.put,zsA,zsB,zsC]
    refine' wpAnyH_take (i := 10) (oi := _) (v := .int .i64 x) rfl (by kernel_rfl) (by kernel_rfl) (by kernel_rfl) (fun _ _ _ h => h) (Or.inl ⟨by first | (go_simp;done) | rfl,fun X hX => by have cX := hX;go_simp⟩) hHeld ?_
    try simp only [Act.put,zsA,zsB,zsC]
    refine wpAnyH_ready (rs := [5]) (by kernel_rfl) (by simp) ?_
    refine AllReadyH.cons (o := _) rfl (fun K hK => ?_) AllReadyH.nil
    go_simp
    refine (cA.out).mono ?_
    rintro e w9 ⟨rfl,rfl⟩
    go_wp2_with fail
    refine hK.out _ _ hHeld (fun hHeld => ?_)
    clear hK K
    try simp only [Act.put,zsA,zsB,zsC]
    refine wpAnyH_ready (rs := [11]) (by kernel_rfl) (by simp) ?_
    refine AllReadyH.cons (o := _) rfl (fun K hK => ?_) AllReadyH.nil
    go_simp
    refine (cB.out).mono ?_
    rintro e w9 ⟨rfl,rfl⟩
    go_wp2_with fail
    refine hK.out _ _ hHeld (fun hHeld => ?_)
    clear hK K
    try simp only [Act.put,zsA,zsB,zsC]
    refine' wpAnyH_take (i := 12) (oi := _) (v := .bool true) rfl (by kernel_rfl) (by kernel_rfl) (by kernel_rfl) (fun _ _ _ h => h) (Or.inl ⟨by first | (go_simp;done) | rfl,fun X _ => by go_simp⟩) hHeld ?_
    try simp only [Act.put,zsA,zsB,zsC]
    refine wpAnyH_done (by kernel_rfl) ?_ _
    go_simp
    clear hHeld
    go_wp2
    go_ret
    exact ⟨rfl,BD⟩
  ·have hin : i = a.length := by have := hn.out;omega
   have hR3 : R = true := by
    rw [hR2.out]
    refine decide_eq_true ?_
    have h9 := hall.out
    rw [hin,List.take_length] at h9
    exact h9
   subst hR3
   have i2 : ¬ (i : Int) < (n : Int) := by have := hn.out;omega
   replace hin := hide hin
   go_wp2
   go_ret
   exact ⟨rfl,Bel.drN (Below.refl _ _) _⟩
set_option maxHeartbeats 4000000 in
set_option maxRecDepth 100000 in
theorem digits32_any (mode n0 : Int) (u v : Value) (a b : List Int) (w : World) (ha : Rd I64 w u a) (hb : Rd I64 w v b) :
  Calls Tryz.prog 141 #[.int .i64 mode,.int .i64 n0,u,v] w (BoolB (digM mode n0 a b) w) := by
 by_cases hl : b.length = a.length
 rotate_left
 ·obtain ⟨ao,ac,rfl,hal,ham,-⟩ := Rd.form ha
  obtain ⟨bo,bc,rfl,hbl,hbm,-⟩ := Rd.form hb
  have e : digM mode n0 a b = false := by unfold digM;rw [if_pos hl]
  rw [e]
  have hnb : ((a.length : Int) != (b.length : Int)) = true := by simp;omega
  replace hl := hide hl
  replace e := hide e
  clear ha hb
  go_enter Tryz.func141,Tryz.ntmps141
  go_wp2
  go_ret
  exact ⟨rfl,Below.refl _ _⟩
 by_cases m2 : mode = 2
 ·subst m2
  have e : digM 2 n0 a b = decide (sortI a = sortI b) := by unfold digM;rw [if_neg (by simpa using hl),if_pos rfl]
  rw [e]
  exact digits32_box n0 u v a b w ha hb hl
 have m2b : (mode == 2) = false := by simpa using m2
 have hE := hide (fun X (hX : Below w.heap.size w X) (fr n : Nat) (h1 : fr + n ≤ a.length) (h2 : fr + n ≤ b.length) => equal32_any u v a b fr n X (ha.below hX) (hb.below hX) h1 h2)
 obtain ⟨ao,ac,rfl,hal,ham,-⟩ := Rd.form ha
 obtain ⟨bo,bc,rfl,hbl,hbm,-⟩ := Rd.form hb
 have hnn : ((a.length : Int) != (b.length : Int)) = false := by simp;omega
 by_cases m1 : mode = 1
 ·subst m1
  have e : digM 1 n0 a b = decide (a = b) := by unfold digM;rw [if_neg (by simpa using hl),if_neg (by decide),if_neg (by decide),if_pos rfl]
  have cE := hE.out w (Below.refl _ _) 0 a.length (by omega) (by omega)
  rw [take_all rfl,take_all hl,List.drop_zero,List.drop_zero] at cE
  rw [e]
  replace cE := hide cE
  obtain ⟨q,hq⟩ : ∃ q,q = decide (a = b) := ⟨_,rfl⟩
  rw [← hq] at cE ⊢
  replace hq := hide hq
  replace e := hide e
  replace hl := hide hl
  clear ha hb
  go_enter Tryz.func141,Tryz.ntmps141
  go_wp2_with fail
  refine cE.out.mono ?_
  rintro e w2 ⟨rfl,hb2⟩
  go_wp2
  go_ret
  exact ⟨rfl,hb2⟩
 have m1b : (mode == 1) = false := by simpa using m1
 by_cases h1 : n0 < 1
 ·have e : digM mode n0 a b = false := by
   unfold digM
   rw [if_neg (by simpa using hl),if_neg m2]
   split
   ·rw [if_pos (.inl h1)]
   ·first | rfl | (rw [if_neg m1])
  rw [e]
  have d1 : decide (n0 < 1) = true := decide_eq_true h1
  replace e := hide e
  replace hl := hide hl
  replace m1 := hide m1
  replace m2 := hide m2
  clear ha hb hE
  go_enter Tryz.func141,Tryz.ntmps141
  go_wp2
  go_ret
  exact ⟨rfl,Below.refl _ _⟩
 have d1 : decide (n0 < 1) = false := decide_eq_false h1
 by_cases h2 : (a.length : Int) < n0
 ·have e : digM mode n0 a b = false := by
   unfold digM
   rw [if_neg (by simpa using hl),if_neg m2]
   split
   ·rw [if_pos (.inr h2)]
   ·first | rfl | (rw [if_neg m1])
  rw [e]
  have d2 : decide ((a.length : Int) < n0) = true := decide_eq_true h2
  replace e := hide e
  replace hl := hide hl
  replace m1 := hide m1
  replace m2 := hide m2
  clear ha hb hE
  go_enter Tryz.func141,Tryz.ntmps141
  go_wp2
  go_ret
  exact ⟨rfl,Below.refl _ _⟩
 have d2 : decide ((a.length : Int) < n0) = false := decide_eq_false h2
 obtain ⟨k,rfl⟩ := Int.eq_ofNat_of_zero_le (show 0 ≤ n0 by omega)
 have hk : k ≤ a.length := by omega
 by_cases m3 : mode = 3
 ·subst m3
  have e : digM 3 (k : Int) a b = decide (a.take k = b.take k) := by
   unfold digM
   rw [if_neg (by simpa using hl),if_neg (by decide),if_pos (.inl rfl),if_neg (by omega),if_pos rfl,Int.toNat_natCast]
  have cE := hE.out w (Below.refl _ _) 0 k (by omega) (by omega)
  rw [Nat.zero_add,List.drop_zero,List.drop_zero] at cE
  rw [e]
  replace cE := hide cE
  obtain ⟨q,hq⟩ : ∃ q,q = decide (a.take k = b.take k) := ⟨_,rfl⟩
  rw [← hq] at cE ⊢
  replace hq := hide hq
  replace e := hide e
  replace hl := hide hl
  replace m1 := hide m1
  replace m2 := hide m2
  clear ha hb
  go_enter Tryz.func141,Tryz.ntmps141
  go_wp2_with fail
  refine cE.out.mono ?_
  rintro e w2 ⟨rfl,hb2⟩
  go_wp2
  go_ret
  exact ⟨rfl,hb2⟩
 have m3b : (mode == 3) = false := by simpa using m3
 by_cases m4 : mode = 4
 ·subst m4
  have e : digM 4 (k : Int) a b = decide (a.drop (a.length - k) = b.drop (a.length - k)) := by
   unfold digM
   rw [if_neg (by simpa using hl),if_neg (by decide),if_pos (.inr rfl),if_neg (by omega),if_neg (by decide),Int.toNat_natCast]
  have cE := hE.out w (Below.refl _ _) (a.length - k) k (by omega) (by omega)
  rw [Nat.sub_add_cancel hk,List.take_length,show b.take a.length = b by rw [← hl,List.take_length]] at cE
  rw [e]
  have hw9 : IntKind.i64.wrap ((a.length : Int) - (k : Int)) = ((a.length - k : Nat) : Int) := by rw [IntWalk.i64_in _ (by unfold maxLen at ham;omega)];omega
  obtain ⟨q,hq⟩ : ∃ q,q = decide (a.drop (a.length - k) = b.drop (a.length - k)) := ⟨_,rfl⟩
  rw [← hq] at cE ⊢
  obtain ⟨z,hz⟩ : ∃ z,z = a.length - k := ⟨_,rfl⟩
  rw [← hz] at cE hw9
  replace cE := hide cE
  replace hq := hide hq
  replace hz := hide hz
  replace e := hide e
  replace hl := hide hl
  replace m1 := hide m1
  replace m2 := hide m2
  replace m3 := hide m3
  clear ha hb
  go_enter Tryz.func141,Tryz.ntmps141
  go_wp2_with fail
  refine cE.out.mono ?_
  rintro e w2 ⟨rfl,hb2⟩
  go_wp2
  go_ret
  exact ⟨rfl,hb2⟩
 have m4b : (mode == 4) = false := by simpa using m4
 have e : digM mode (k : Int) a b = false := by
  unfold digM
  rw [if_neg (by simpa using hl),if_neg m2,if_neg (by omega),if_neg m1]
 rw [e]
 replace e := hide e
 replace hl := hide hl
 replace m1 := hide m1
 replace m2 := hide m2
 replace m3 := hide m3
 replace m4 := hide m4
 clear ha hb hE
 go_enter Tryz.func141,Tryz.ntmps141
 go_wp2
 go_ret
 exact ⟨rfl,Below.refl _ _⟩
set_option maxHeartbeats 4000000 in
set_option maxRecDepth 100000 in
theorem common32_any (u v : Value) (a b : List Int) (w : World) (ha : Rd I64 w u a) (hb : Rd I64 w v b) :
  Calls Tryz.prog 142 #[u,v] w (IntB (comM a b : Int) w) := by
 obtain ⟨ao,ac,rfl,hal,ham,hra⟩ := Rd.form ha
 obtain ⟨bo,bc,rfl,hbl,hbm,hrb⟩ := Rd.form hb
 obtain ⟨R,hR⟩ : ∃ R,R = comM a b := ⟨_,rfl⟩
 rw [← hR]
 obtain ⟨n,hn⟩ : ∃ x,x = a.length := ⟨_,rfl⟩
 obtain ⟨m,hm⟩ : ∃ x,x = b.length := ⟨_,rfl⟩
 have hn63 : (n : Int) ≤ 9223372036854775807 := by unfold maxLen at ham;omega
 have hm63 : (m : Int) ≤ 9223372036854775807 := by unfold maxLen at hbm;omega
 rw [← hn,← hm]
 replace hn := hide hn
 replace hm := hide hm
 replace hR := hide hR
 clear ha hb hal ham hbl hbm
 go_enter Tryz.func142,Tryz.ntmps142
 go_wp2
 go_loopg [5,6,7,8] n (fun gh t5 t6 _ _ wr => ∃ (i c d : Nat),gh = n - i ∧ i ≤ n ∧ t6 = .int .i64 (i : Int) ∧ t5 = .int .i64 (c : Int) ∧ c ≤ i ∧ Hid (c = comM (a.take i) b) ∧ wr = w.drewN d)
 case atStart => exact ⟨0,0,0,rfl,Nat.zero_le _,rfl,rfl,Nat.le_refl _,rfl,rfl⟩
 case round =>
  obtain ⟨i,c,d0,hgh,hi,rfl,rfl,hci,hc,rfl⟩ := hrel
  replace hgh := hide hgh
  by_cases hlt : i < n
  ·have hlt2 := hide hlt
   have hil : i < a.length := by rw [← hn.out];exact hlt
   obtain ⟨ba,oa,rfl,hba,hca⟩ := hra.at_ hil
   obtain ⟨x,hx,cx⟩ : ∃ x,x = a[i] ∧ w.cell? ⟨ba,oa + i,none⟩ = some (.int .i64 x) := ⟨_,rfl,hca _ hil⟩
   have hct := comM_take (b := b) hil
   rw [← hx,← hc.out] at hct
   have i1 : (0 : Int) ≤ (i : Int) := by omega
   have i2 : (i : Int) < (n : Int) := by omega
   clear hca
   replace hx := hide hx
   go_wp2
   go_loopg [7,8] m (fun gh2 t7 t8 wr => ∃ (k d : Nat),gh2 = m - k ∧ k ≤ m ∧ t8 = .int .i64 (k : Int) ∧ t7 = .bool (decide (x ∈ b.take k)) ∧ wr = w.drewN d)
   case atStart => exact ⟨0,d0,rfl,Nat.zero_le _,rfl,by simp,rfl⟩
   case round =>
    obtain ⟨k,d,hgh2,hk,rfl,rfl,rfl⟩ := hrel
    replace hgh2 := hide hgh2
    obtain ⟨q,hq⟩ : ∃ q,q = decide (x ∈ b.take k) := ⟨_,rfl⟩
    rw [← hq]
    by_cases hkl : k < m
    ·have hkl2 := hide hkl
     have hkb : k < b.length := by rw [← hm.out];exact hkl
     obtain ⟨bb,ob,rfl,hbb,hcb⟩ := hrb.at_ hkb
     obtain ⟨y,hy,cy⟩ : ∃ y,y = b[k] ∧ w.cell? ⟨bb,ob + k,none⟩ = some (.int .i64 y) := ⟨_,rfl,hcb _ hkb⟩
     have hsn : b.take (k + 1) = b.take k ++ [y] := by rw [List.take_succ_eq_append_getElem hkb,hy]
     have k1 : (0 : Int) ≤ (k : Int) := by omega
     have k2 : (k : Int) < (m : Int) := by omega
     clear hcb
     replace hy := hide hy
     cases q with
     | true =>
      have hq2 : Hid (decide (x ∈ b.take (k + 1)) = true) := by
       show _ = _
       rw [hsn]
       exact decide_eq_true (List.mem_append_left _ (of_decide_eq_true hq.symm))
      replace hq := hide hq
      replace hsn := hide hsn
      go_wp2
      go_quiet (fail)
      go_wp2
      go_roundg (m - (k + 1))
      case measure => have := hgh2.out;have := hkl2.out;omega
      case rel => exact ⟨k + 1,_,rfl,by have := hkl2.out;omega,by go_num,by rw [hq2.out],rfl⟩
     | false =>
      have hnm : x ∉ b.take k := of_decide_eq_false hq.symm
      by_cases he : y = x
      ·have hb1 : (y == x) = true := by simpa using he
       have hq2 : Hid (decide (x ∈ b.take (k + 1)) = true) := by
        show _ = _
        rw [hsn,he]
        exact decide_eq_true (List.mem_append_right _ (List.mem_singleton.2 rfl))
       replace hq := hide hq
       replace hsn := hide hsn
       replace he := hide he
       replace hnm := hide hnm
       go_wp2
       go_quiet (fail)
       go_wp2
       go_roundg (m - (k + 1))
       case measure => have := hgh2.out;have := hkl2.out;omega
       case rel => exact ⟨k + 1,_,rfl,by have := hkl2.out;omega,by go_num,by rw [hq2.out],rfl⟩
      ·have hb1 : (y == x) = false := by simpa using he
       have hq2 : Hid (decide (x ∈ b.take (k + 1)) = false) := by
        show _ = _
        rw [hsn]
        refine decide_eq_false (fun h => ?_)
        rcases List.mem_append.1 h with h | h
        ·exact hnm h
        ·exact he (List.mem_singleton.1 h).symm
       replace hq := hide hq
       replace hsn := hide hsn
       replace he := hide he
       replace hnm := hide hnm
       go_wp2
       go_quiet (fail)
       go_wp2
       go_roundg (m - (k + 1))
       case measure => have := hgh2.out;have := hkl2.out;omega
       case rel => exact ⟨k + 1,_,rfl,by have := hkl2.out;omega,by go_num,by rw [hq2.out],rfl⟩
    ·have hkm : k = b.length := by have := hm.out;omega
     rw [hkm,List.take_length] at hq
     have k2 : ¬ (k : Int) < (m : Int) := by have := hm.out;omega
     replace hkm := hide hkm
     cases q with
     | true =>
      rw [if_pos (of_decide_eq_true hq.symm)] at hct
      have hct2 : Hid (c + 1 = comM (a.take (i + 1)) b) := hct.symm
      have hc9 : c + 1 ≤ i + 1 := by omega
      replace hq := hide hq
      clear hct
      go_wp2
      go_roundg (n - (i + 1))
      case measure => have := hgh.out;have := hlt2.out;omega
      case rel => exact ⟨i + 1,c + 1,_,rfl,by have := hlt2.out;omega,by go_num,by go_num,hc9,hct2,rfl⟩
     | false =>
      rw [if_neg (of_decide_eq_false hq.symm)] at hct
      have hct2 : Hid (c = comM (a.take (i + 1)) b) := hct.symm
      have hc9 : c ≤ i + 1 := by omega
      replace hq := hide hq
      clear hct
      go_wp2
      go_roundg (n - (i + 1))
      case measure => have := hgh.out;have := hlt2.out;omega
      case rel => exact ⟨i + 1,c,_,rfl,by have := hlt2.out;omega,by go_num,rfl,hc9,hct2,rfl⟩
  ·have hin : i = a.length := by have := hn.out;omega
   have hc2 := hc.out
   rw [hin,List.take_length,← hR.out] at hc2
   subst hc2
   have i2 : ¬ (i : Int) < (n : Int) := by have := hn.out;omega
   replace hin := hide hin
   clear hc
   go_wp2
   go_ret
   exact ⟨rfl,Bel.drN (Below.refl _ _) _⟩
theorem Row.at4 (w : World) (o o' o'' : Obj) (t : TypeId) (cs : List Value) : Row ((((w.alloc o).alloc o').alloc o'').alloc (.cells cs.toArray t)) (w.heap.size + 1 + 1 + 1) t cs := by
 have := Row.new (((w.alloc o).alloc o').alloc o'') t cs
 rwa [alloc_size,alloc_size,alloc_size] at this
set_option maxHeartbeats 16000000 in
set_option maxRecDepth 100000 in
theorem wins32_any (g : GameD) (t : TierD) (av tv lv kv mv bv xv : Value) (x : LineD) (r : ResD) (w : World) (hl : LineR w lv kv x.1 x.2) (hr : ResR w mv bv xv r) (ha : ∃ a n c,av = .slice a n c) (ht : ∃ a n c,tv = .slice a n c) :
  Calls Tryz.prog 98 #[gameVal g av tv,tierVal t,lineVal lv kv,resVal mv bv xv r] w (BoolB (meetM g x r t) w) := by
 have cD := hide (fun X (hX : Below w.heap.size w X) => digits32_any t.mode t.main lv mv x.1 r.main X (hl.below hX).1 (hr.below hX).1)
 have cC1 := hide (fun X (hX : Below w.heap.size w X) => common32_any lv mv x.1 r.main X (hl.below hX).1 (hr.below hX).1)
 have cC2 := hide (fun X (hX : Below w.heap.size w X) => common32_any kv bv x.2 r.bonus X (hl.below hX).2 (hr.below hX).2.1)
 have cC3 := hide (fun X (hX : Below w.heap.size w X) => common32_any lv xv x.1 r.extra X (hl.below hX).1 (hr.below hX).2.2)
 obtain ⟨la,ln,lc,rfl⟩ := Rd.shape hl.1
 obtain ⟨ka,kn,kc,rfl⟩ := Rd.shape hl.2
 obtain ⟨ma,mn,mc,rfl⟩ := Rd.shape hr.1
 obtain ⟨ba,bn,bc,rfl⟩ := Rd.shape hr.2.1
 obtain ⟨xa,xn,xc,rfl⟩ := Rd.shape hr.2.2
 obtain ⟨aa,an,ac,rfl⟩ := ha
 obtain ⟨ta,tn,tc,rfl⟩ := ht
 obtain ⟨P,hP⟩ : ∃ P,P = meetM g x r t := ⟨_,rfl⟩
 rw [← hP]
 unfold meetM at hP
 unfold gameVal tierVal lineVal resVal
 clear hl hr
 replace hP := hide hP
 go_enter Tryz.func98,Tryz.ntmps98
 go_upto_region 1 with (fail)
 obtain ⟨W,hW⟩ : ∃ W,W = ((((w.alloc (Obj.cells (gameCells g (.slice aa an ac) (.slice ta tn tc)).toArray 25)).alloc (Obj.cells (tierCells t).toArray 82)).alloc (Obj.cells #[.slice la ln lc,.slice ka kn kc] 41)).alloc (Obj.cells #[.slice ma mn mc,.slice ba bn bc,.slice xa xn xc,.int .i64 r.factor,.string r.serial] 29)) := ⟨_,rfl⟩
 have bW : Below w.heap.size w W := by rw [hW];exact Bel.al (Bel.al (Bel.al (Bel.al (Below.refl _ _) _) _) _) _
 have r0 : GameAt W w.heap.size g (.slice aa an ac) (.slice ta tn tc) := by rw [hW];exact Row.alloc (Row.alloc (Row.alloc (Row.new _ _ _) _) _) _
 have r1 : TierAt W (w.heap.size + 1) t := by rw [hW];exact Row.alloc (Row.alloc (Row.at2 _ _ _ _) _) _
 have r2 : LineAt W (w.heap.size + 1 + 1) (.slice la ln lc) (.slice ka kn kc) := by rw [hW];exact Row.alloc (Row.at3 _ _ _ _ _) _
 have r3 : Row W (w.heap.size + 1 + 1 + 1) 29 [.slice ma mn mc,.slice ba bn bc,.slice xa xn xc,.int .i64 r.factor,.string r.serial] := by rw [hW];exact Row.at4 _ _ _ _ _ _
 have hW2 : W = ((((w.alloc (Obj.cells #[.string g.name,.int .i64 g.kind,.int .i64 g.price,.int .i64 g.main,.int .i64 g.of,.int .i64 g.bonus,.int .i64 g.bonusOf,.int .i64 g.extra,.int .i64 g.draws,.int .i64 g.system,.int .i64 g.days,.int .i64 g.at_,.int .i64 g.close,.int .i64 g.cancel,.int .i64 g.expiry,.int .i64 g.pool,.int .i64 g.reserve,.int .i64 g.round,.int .i64 g.cap,.int .i64 g.rolls,(.slice aa an ac),(.slice ta tn tc)] 25)).alloc (Obj.cells #[.int .i64 t.main,.int .i64 t.bonus,.int .i64 t.extra,.int .i64 t.mode,.int .i64 t.kind,.int .i64 t.value] 82)).alloc (Obj.cells #[.slice la ln lc,.slice ka kn kc] 41)).alloc (Obj.cells #[.slice ma mn mc,.slice ba bn bc,.slice xa xn xc,.int .i64 r.factor,.string r.serial] 29)) := hW
 rw [← hW2]
 clear hW hW2
 have dk := r0.kind
 have t0 : W.cell? ⟨w.heap.size + 1,0,none⟩ = some (.int .i64 t.main) := (Row.cell? r1 0).trans rfl
 have t1 : W.cell? ⟨w.heap.size + 1,1,none⟩ = some (.int .i64 t.bonus) := (Row.cell? r1 1).trans rfl
 have t2 : W.cell? ⟨w.heap.size + 1,2,none⟩ = some (.int .i64 t.extra) := (Row.cell? r1 2).trans rfl
 have t3 : W.cell? ⟨w.heap.size + 1,3,none⟩ = some (.int .i64 t.mode) := (Row.cell? r1 3).trans rfl
 have l0 := r2.main
 have l1 := r2.bonus
 have x0 : W.cell? ⟨w.heap.size + 1 + 1 + 1,0,none⟩ = some (.slice ma mn mc) := (Row.cell? r3 0).trans rfl
 have x1 : W.cell? ⟨w.heap.size + 1 + 1 + 1,1,none⟩ = some (.slice ba bn bc) := (Row.cell? r3 1).trans rfl
 have x2 : W.cell? ⟨w.heap.size + 1 + 1 + 1,2,none⟩ = some (.slice xa xn xc) := (Row.cell? r3 2).trans rfl
 clear r0 r1 r2 r3
 by_cases hk : g.kind = 2
 ·have hkb : (g.kind == 2) = true := by simpa using hk
  have hP1 := hP.out
  rw [if_pos hk] at hP1
  have cD1 := cD.out W bW
  rw [← hP1] at cD1
  replace cD1 := hide cD1
  replace hk := hide hk
  replace hP1 := hide hP1
  clear hP
  go_wp2_with fail
  refine cD1.out.mono ?_
  rintro e w2 ⟨rfl,hb2⟩
  go_wp2
  go_ret
  exact ⟨rfl,Bel.to bW hb2⟩
 have hkb : (g.kind == 2) = false := by simpa using hk
 have hP1 := hP.out
 rw [if_neg hk] at hP1
 replace hk := hide hk
 clear hP cD
 obtain ⟨n1,hn1⟩ : ∃ n,n = comM x.1 r.main := ⟨_,rfl⟩
 obtain ⟨n2,hn2⟩ : ∃ n,n = comM x.2 r.bonus := ⟨_,rfl⟩
 obtain ⟨n3,hn3⟩ : ∃ n,n = comM x.1 r.extra := ⟨_,rfl⟩
 rw [← hn1] at cC1 hP1
 rw [← hn2] at cC2 hP1
 rw [← hn3] at cC3 hP1
 clear hn1 hn2 hn3
 have cells : W.drew.cell? ⟨w.heap.size + 1,0,none⟩ = some (.int .i64 t.main) ∧ W.drew.cell? ⟨w.heap.size + 1,1,none⟩ = some (.int .i64 t.bonus) ∧ W.drew.cell? ⟨w.heap.size + 1,2,none⟩ = some (.int .i64 t.extra) ∧ W.drew.cell? ⟨w.heap.size + 1 + 1,0,none⟩ = some (.slice la ln lc) ∧ W.drew.cell? ⟨w.heap.size + 1 + 1,1,none⟩ = some (.slice ka kn kc) ∧ W.drew.cell? ⟨w.heap.size + 1 + 1 + 1,0,none⟩ = some (.slice ma mn mc) ∧ W.drew.cell? ⟨w.heap.size + 1 + 1 + 1,1,none⟩ = some (.slice ba bn bc) ∧ W.drew.cell? ⟨w.heap.size + 1 + 1 + 1,2,none⟩ = some (.slice xa xn xc) := ⟨t0,t1,t2,l0,l1,x0,x1,x2⟩
 have BD : Below w.heap.size w W.drew := Bel.drN bW 1
 clear t3
 by_cases q1 : t.main ≤ (n1 : Int)
 rotate_left
 ·have d1 : decide (t.main ≤ (n1 : Int)) = false := decide_eq_false q1
  rw [decide_eq_false (fun h => q1 h.1)] at hP1
  subst hP1
  replace q1 := hide q1
  go_upto_region 3 with (fail)
  refine wp_region_held_drew (S := fun X => X.cell? ⟨w.heap.size + 1,0,none⟩ = some (.int .i64 t.main) ∧ X.cell? ⟨w.heap.size + 1,1,none⟩ = some (.int .i64 t.bonus) ∧ X.cell? ⟨w.heap.size + 1,2,none⟩ = some (.int .i64 t.extra) ∧ X.cell? ⟨w.heap.size + 1 + 1,0,none⟩ = some (.slice la ln lc) ∧ X.cell? ⟨w.heap.size + 1 + 1,1,none⟩ = some (.slice ka kn kc) ∧ X.cell? ⟨w.heap.size + 1 + 1 + 1,0,none⟩ = some (.slice ma mn mc) ∧ X.cell? ⟨w.heap.size + 1 + 1 + 1,1,none⟩ = some (.slice ba bn bc) ∧ X.cell? ⟨w.heap.size + 1 + 1 + 1,2,none⟩ = some (.slice xa xn xc)) (by kernel_rfl) (cells) (fun hHeld => ?_)
  refine' wpAnyH_take (i := 0) (oi := _) (v := .pointer (some ⟨w.heap.size + 1 + 1,0,none⟩)) rfl (by kernel_rfl) (by kernel_rfl) (by kernel_rfl) (fun _ _ _ h => h) (Or.inl ⟨by first | (go_simp;done) | rfl,fun X _ => by go_simp⟩) hHeld ?_
  try simp only [Act.put,zsA,zsB,zsC]
  refine' wpAnyH_take (i := 1) (oi := _) (v := .slice la ln lc) rfl (by kernel_rfl) (by kernel_rfl) (by kernel_rfl) (fun _ _ _ h => h) (Or.inl ⟨by first | (go_simp;done) | rfl,fun X hX => by have cX := hX.2.2.2.1;go_simp⟩) hHeld ?_
  try simp only [Act.put,zsA,zsB,zsC]
  refine' wpAnyH_take (i := 2) (oi := _) (v := .pointer (some ⟨w.heap.size + 1 + 1 + 1,0,none⟩)) rfl (by kernel_rfl) (by kernel_rfl) (by kernel_rfl) (fun _ _ _ h => h) (Or.inl ⟨by first | (go_simp;done) | rfl,fun X _ => by go_simp⟩) hHeld ?_
  try simp only [Act.put,zsA,zsB,zsC]
  refine' wpAnyH_take (i := 3) (oi := _) (v := .slice ma mn mc) rfl (by kernel_rfl) (by kernel_rfl) (by kernel_rfl) (fun _ _ _ h => h) (Or.inl ⟨by first | (go_simp;done) | rfl,fun X hX => by have cX := hX.2.2.2.2.2.1;go_simp⟩) hHeld ?_
  try simp only [Act.put,zsA,zsB,zsC]
  refine' wpAnyH_take (i := 5) (oi := _) (v := .pointer (some ⟨w.heap.size + 1,0,none⟩)) rfl (by kernel_rfl) (by kernel_rfl) (by kernel_rfl) (fun _ _ _ h => h) (Or.inl ⟨by first | (go_simp;done) | rfl,fun X _ => by go_simp⟩) hHeld ?_
  try simp only [Act.put,zsA,zsB,zsC]
  refine' wpAnyH_take (i := 6) (oi := _) (v := .int .i64 t.main) rfl (by kernel_rfl) (by kernel_rfl) (by kernel_rfl) (fun _ _ _ h => h) (Or.inl ⟨by first | (go_simp;done) | rfl,fun X hX => by have cX := hX.1;go_simp⟩) hHeld ?_
  try simp only [Act.put,zsA,zsB,zsC]
  refine wpAnyH_ready (rs := [4]) (by kernel_rfl) (by simp) ?_
  refine AllReadyH.cons (o := _) rfl (fun K hK => ?_) AllReadyH.nil
  go_simp
  refine (cC1.out _ BD).mono ?_
  rintro e hb1w ⟨rfl,hb1⟩
  have B1 := Bel.to BD hb1
  go_wp2_with fail
  refine hK.out _ _ (⟨Bel.cellOf hb1 hHeld.1,Bel.cellOf hb1 hHeld.2.1,Bel.cellOf hb1 hHeld.2.2.1,Bel.cellOf hb1 hHeld.2.2.2.1,Bel.cellOf hb1 hHeld.2.2.2.2.1,Bel.cellOf hb1 hHeld.2.2.2.2.2.1,Bel.cellOf hb1 hHeld.2.2.2.2.2.2.1,Bel.cellOf hb1 hHeld.2.2.2.2.2.2.2⟩) (fun hHeld => ?_)
  clear hK K
  try simp only [Act.put,zsA,zsB,zsC]
  refine' wpAnyH_take (i := 7) (oi := _) (v := .bool false) rfl (by kernel_rfl) (by kernel_rfl) (by kernel_rfl) (fun _ _ _ h => h) (Or.inl ⟨by first | (go_simp;done) | rfl,fun X _ => by go_simp⟩) hHeld ?_
  try simp only [Act.put,zsA,zsB,zsC]
  refine' wpAnyH_take (i := 8) (oi := _) (v := .bool false) rfl (by kernel_rfl) (by kernel_rfl) (by kernel_rfl) (fun _ _ _ h => h) (Or.inl ⟨by first | (go_simp;done) | rfl,fun X _ => by go_simp⟩) hHeld ?_
  try simp only [Act.put,zsA,zsB,zsC]
  refine' wpAnyH_take (i := 9) (oi := _) (v := undef) rfl (by kernel_rfl) (by kernel_rfl) (by kernel_rfl) (fun _ _ _ h => h) (Or.inr ⟨by first | (go_simp;done) | rfl,rfl⟩) hHeld ?_
  try simp only [Act.put,zsA,zsB,zsC]
  refine' wpAnyH_take (i := 10) (oi := _) (v := undef) rfl (by kernel_rfl) (by kernel_rfl) (by kernel_rfl) (fun _ _ _ h => h) (Or.inr ⟨by first | (go_simp;done) | rfl,rfl⟩) hHeld ?_
  try simp only [Act.put,zsA,zsB,zsC]
  refine' wpAnyH_take (i := 11) (oi := _) (v := undef) rfl (by kernel_rfl) (by kernel_rfl) (by kernel_rfl) (fun _ _ _ h => h) (Or.inr ⟨by first | (go_simp;done) | rfl,rfl⟩) hHeld ?_
  try simp only [Act.put,zsA,zsB,zsC]
  refine' wpAnyH_take (i := 12) (oi := _) (v := undef) rfl (by kernel_rfl) (by kernel_rfl) (by kernel_rfl) (fun _ _ _ h => h) (Or.inr ⟨by first | (go_simp;done) | rfl,rfl⟩) hHeld ?_
  try simp only [Act.put,zsA,zsB,zsC]
  refine' wpAnyH_take (i := 13) (oi := _) (v := undef) rfl (by kernel_rfl) (by kernel_rfl) (by kernel_rfl) (fun _ _ _ h => h) (Or.inr ⟨by first | (go_simp;done) | rfl,rfl⟩) hHeld ?_
  try simp only [Act.put,zsA,zsB,zsC]
  refine' wpAnyH_take (i := 14) (oi := _) (v := undef) rfl (by kernel_rfl) (by kernel_rfl) (by kernel_rfl) (fun _ _ _ h => h) (Or.inr ⟨by first | (go_simp;done) | rfl,rfl⟩) hHeld ?_
  try simp only [Act.put,zsA,zsB,zsC]
  refine' wpAnyH_take (i := 15) (oi := _) (v := undef) rfl (by kernel_rfl) (by kernel_rfl) (by kernel_rfl) (fun _ _ _ h => h) (Or.inr ⟨by first | (go_simp;done) | rfl,rfl⟩) hHeld ?_
  try simp only [Act.put,zsA,zsB,zsC]
  refine' wpAnyH_take (i := 16) (oi := _) (v := undef) rfl (by kernel_rfl) (by kernel_rfl) (by kernel_rfl) (fun _ _ _ h => h) (Or.inr ⟨by first | (go_simp;done) | rfl,rfl⟩) hHeld ?_
  try simp only [Act.put,zsA,zsB,zsC]
  refine' wpAnyH_take (i := 17) (oi := _) (v := .bool false) rfl (by kernel_rfl) (by kernel_rfl) (by kernel_rfl) (fun _ _ _ h => h) (Or.inl ⟨by first | (go_simp;done) | rfl,fun X _ => by go_simp⟩) hHeld ?_
  try simp only [Act.put,zsA,zsB,zsC]
  refine' wpAnyH_take (i := 18) (oi := _) (v := .bool false) rfl (by kernel_rfl) (by kernel_rfl) (by kernel_rfl) (fun _ _ _ h => h) (Or.inl ⟨by first | (go_simp;done) | rfl,fun X _ => by go_simp⟩) hHeld ?_
  try simp only [Act.put,zsA,zsB,zsC]
  refine' wpAnyH_take (i := 19) (oi := _) (v := undef) rfl (by kernel_rfl) (by kernel_rfl) (by kernel_rfl) (fun _ _ _ h => h) (Or.inr ⟨by first | (go_simp;done) | rfl,rfl⟩) hHeld ?_
  try simp only [Act.put,zsA,zsB,zsC]
  refine' wpAnyH_take (i := 20) (oi := _) (v := undef) rfl (by kernel_rfl) (by kernel_rfl) (by kernel_rfl) (fun _ _ _ h => h) (Or.inr ⟨by first | (go_simp;done) | rfl,rfl⟩) hHeld ?_
  try simp only [Act.put,zsA,zsB,zsC]
  refine' wpAnyH_take (i := 21) (oi := _) (v := undef) rfl (by kernel_rfl) (by kernel_rfl) (by kernel_rfl) (fun _ _ _ h => h) (Or.inr ⟨by first | (go_simp;done) | rfl,rfl⟩) hHeld ?_
  try simp only [Act.put,zsA,zsB,zsC]
  refine' wpAnyH_take (i := 22) (oi := _) (v := undef) rfl (by kernel_rfl) (by kernel_rfl) (by kernel_rfl) (fun _ _ _ h => h) (Or.inr ⟨by first | (go_simp;done) | rfl,rfl⟩) hHeld ?_
  try simp only [Act.put,zsA,zsB,zsC]
  refine' wpAnyH_take (i := 23) (oi := _) (v := undef) rfl (by kernel_rfl) (by kernel_rfl) (by kernel_rfl) (fun _ _ _ h => h) (Or.inr ⟨by first | (go_simp;done) | rfl,rfl⟩) hHeld ?_
  try simp only [Act.put,zsA,zsB,zsC]
  refine' wpAnyH_take (i := 24) (oi := _) (v := undef) rfl (by kernel_rfl) (by kernel_rfl) (by kernel_rfl) (fun _ _ _ h => h) (Or.inr ⟨by first | (go_simp;done) | rfl,rfl⟩) hHeld ?_
  try simp only [Act.put,zsA,zsB,zsC]
  refine' wpAnyH_take (i := 25) (oi := _) (v := undef) rfl (by kernel_rfl) (by kernel_rfl) (by kernel_rfl) (fun _ _ _ h => h) (Or.inr ⟨by first | (go_simp;done) | rfl,rfl⟩) hHeld ?_
  try simp only [Act.put,zsA,zsB,zsC]
  refine' wpAnyH_take (i := 26) (oi := _) (v := undef) rfl (by kernel_rfl) (by kernel_rfl) (by kernel_rfl) (fun _ _ _ h => h) (Or.inr ⟨by first | (go_simp;done) | rfl,rfl⟩) hHeld ?_
  try simp only [Act.put,zsA,zsB,zsC]
  refine' wpAnyH_take (i := 27) (oi := _) (v := .bool false) rfl (by kernel_rfl) (by kernel_rfl) (by kernel_rfl) (fun _ _ _ h => h) (Or.inl ⟨by first | (go_simp;done) | rfl,fun X _ => by go_simp⟩) hHeld ?_
  try simp only [Act.put,zsA,zsB,zsC]
  refine' wpAnyH_take (i := 28) (oi := _) (v := .bool false) rfl (by kernel_rfl) (by kernel_rfl) (by kernel_rfl) (fun _ _ _ h => h) (Or.inl ⟨by first | (go_simp;done) | rfl,fun X _ => by go_simp⟩) hHeld ?_
  try simp only [Act.put,zsA,zsB,zsC]
  refine wpAnyH_done (by kernel_rfl) ?_ _
  go_simp
  clear hHeld
  go_wp2
  go_ret
  exact ⟨rfl,B1⟩
 have d1 : decide (t.main ≤ (n1 : Int)) = true := decide_eq_true q1
 by_cases q2 : t.bonus ≤ (n2 : Int)
 rotate_left
 ·have d2 : decide (t.bonus ≤ (n2 : Int)) = false := decide_eq_false q2
  rw [decide_eq_false (fun h => q2 h.2.1)] at hP1
  subst hP1
  replace q1 := hide q1
  replace q2 := hide q2
  go_upto_region 3 with (fail)
  refine wp_region_held_drew (S := fun X => X.cell? ⟨w.heap.size + 1,0,none⟩ = some (.int .i64 t.main) ∧ X.cell? ⟨w.heap.size + 1,1,none⟩ = some (.int .i64 t.bonus) ∧ X.cell? ⟨w.heap.size + 1,2,none⟩ = some (.int .i64 t.extra) ∧ X.cell? ⟨w.heap.size + 1 + 1,0,none⟩ = some (.slice la ln lc) ∧ X.cell? ⟨w.heap.size + 1 + 1,1,none⟩ = some (.slice ka kn kc) ∧ X.cell? ⟨w.heap.size + 1 + 1 + 1,0,none⟩ = some (.slice ma mn mc) ∧ X.cell? ⟨w.heap.size + 1 + 1 + 1,1,none⟩ = some (.slice ba bn bc) ∧ X.cell? ⟨w.heap.size + 1 + 1 + 1,2,none⟩ = some (.slice xa xn xc)) (by kernel_rfl) (cells) (fun hHeld => ?_)
  refine' wpAnyH_take (i := 0) (oi := _) (v := .pointer (some ⟨w.heap.size + 1 + 1,0,none⟩)) rfl (by kernel_rfl) (by kernel_rfl) (by kernel_rfl) (fun _ _ _ h => h) (Or.inl ⟨by first | (go_simp;done) | rfl,fun X _ => by go_simp⟩) hHeld ?_
  try simp only [Act.put,zsA,zsB,zsC]
  refine' wpAnyH_take (i := 1) (oi := _) (v := .slice la ln lc) rfl (by kernel_rfl) (by kernel_rfl) (by kernel_rfl) (fun _ _ _ h => h) (Or.inl ⟨by first | (go_simp;done) | rfl,fun X hX => by have cX := hX.2.2.2.1;go_simp⟩) hHeld ?_
  try simp only [Act.put,zsA,zsB,zsC]
  refine' wpAnyH_take (i := 2) (oi := _) (v := .pointer (some ⟨w.heap.size + 1 + 1 + 1,0,none⟩)) rfl (by kernel_rfl) (by kernel_rfl) (by kernel_rfl) (fun _ _ _ h => h) (Or.inl ⟨by first | (go_simp;done) | rfl,fun X _ => by go_simp⟩) hHeld ?_
  try simp only [Act.put,zsA,zsB,zsC]
  refine' wpAnyH_take (i := 3) (oi := _) (v := .slice ma mn mc) rfl (by kernel_rfl) (by kernel_rfl) (by kernel_rfl) (fun _ _ _ h => h) (Or.inl ⟨by first | (go_simp;done) | rfl,fun X hX => by have cX := hX.2.2.2.2.2.1;go_simp⟩) hHeld ?_
  try simp only [Act.put,zsA,zsB,zsC]
  refine' wpAnyH_take (i := 5) (oi := _) (v := .pointer (some ⟨w.heap.size + 1,0,none⟩)) rfl (by kernel_rfl) (by kernel_rfl) (by kernel_rfl) (fun _ _ _ h => h) (Or.inl ⟨by first | (go_simp;done) | rfl,fun X _ => by go_simp⟩) hHeld ?_
  try simp only [Act.put,zsA,zsB,zsC]
  refine' wpAnyH_take (i := 6) (oi := _) (v := .int .i64 t.main) rfl (by kernel_rfl) (by kernel_rfl) (by kernel_rfl) (fun _ _ _ h => h) (Or.inl ⟨by first | (go_simp;done) | rfl,fun X hX => by have cX := hX.1;go_simp⟩) hHeld ?_
  try simp only [Act.put,zsA,zsB,zsC]
  refine wpAnyH_ready (rs := [4]) (by kernel_rfl) (by simp) ?_
  refine AllReadyH.cons (o := _) rfl (fun K hK => ?_) AllReadyH.nil
  go_simp
  refine (cC1.out _ BD).mono ?_
  rintro e hb1w ⟨rfl,hb1⟩
  have B1 := Bel.to BD hb1
  go_wp2_with fail
  refine hK.out _ _ (⟨Bel.cellOf hb1 hHeld.1,Bel.cellOf hb1 hHeld.2.1,Bel.cellOf hb1 hHeld.2.2.1,Bel.cellOf hb1 hHeld.2.2.2.1,Bel.cellOf hb1 hHeld.2.2.2.2.1,Bel.cellOf hb1 hHeld.2.2.2.2.2.1,Bel.cellOf hb1 hHeld.2.2.2.2.2.2.1,Bel.cellOf hb1 hHeld.2.2.2.2.2.2.2⟩) (fun hHeld => ?_)
  clear hK K
  try simp only [Act.put,zsA,zsB,zsC]
  refine' wpAnyH_take (i := 7) (oi := _) (v := .bool true) rfl (by kernel_rfl) (by kernel_rfl) (by kernel_rfl) (fun _ _ _ h => h) (Or.inl ⟨by first | (go_simp;done) | rfl,fun X _ => by go_simp⟩) hHeld ?_
  try simp only [Act.put,zsA,zsB,zsC]
  refine' wpAnyH_take (i := 8) (oi := _) (v := .bool true) rfl (by kernel_rfl) (by kernel_rfl) (by kernel_rfl) (fun _ _ _ h => h) (Or.inl ⟨by first | (go_simp;done) | rfl,fun X _ => by go_simp⟩) hHeld ?_
  try simp only [Act.put,zsA,zsB,zsC]
  refine' wpAnyH_take (i := 9) (oi := _) (v := .pointer (some ⟨w.heap.size + 1 + 1,1,none⟩)) rfl (by kernel_rfl) (by kernel_rfl) (by kernel_rfl) (fun _ _ _ h => h) (Or.inl ⟨by first | (go_simp;done) | rfl,fun X _ => by go_simp⟩) hHeld ?_
  try simp only [Act.put,zsA,zsB,zsC]
  refine' wpAnyH_take (i := 10) (oi := _) (v := .slice ka kn kc) rfl (by kernel_rfl) (by kernel_rfl) (by kernel_rfl) (fun _ _ _ h => h) (Or.inl ⟨by first | (go_simp;done) | rfl,fun X hX => by have cX := hX.2.2.2.2.1;go_simp⟩) hHeld ?_
  try simp only [Act.put,zsA,zsB,zsC]
  refine' wpAnyH_take (i := 11) (oi := _) (v := .pointer (some ⟨w.heap.size + 1 + 1 + 1,1,none⟩)) rfl (by kernel_rfl) (by kernel_rfl) (by kernel_rfl) (fun _ _ _ h => h) (Or.inl ⟨by first | (go_simp;done) | rfl,fun X _ => by go_simp⟩) hHeld ?_
  try simp only [Act.put,zsA,zsB,zsC]
  refine' wpAnyH_take (i := 12) (oi := _) (v := .slice ba bn bc) rfl (by kernel_rfl) (by kernel_rfl) (by kernel_rfl) (fun _ _ _ h => h) (Or.inl ⟨by first | (go_simp;done) | rfl,fun X hX => by have cX := hX.2.2.2.2.2.2.1;go_simp⟩) hHeld ?_
  try simp only [Act.put,zsA,zsB,zsC]
  refine' wpAnyH_take (i := 14) (oi := _) (v := .pointer (some ⟨w.heap.size + 1,1,none⟩)) rfl (by kernel_rfl) (by kernel_rfl) (by kernel_rfl) (fun _ _ _ h => h) (Or.inl ⟨by first | (go_simp;done) | rfl,fun X _ => by go_simp⟩) hHeld ?_
  try simp only [Act.put,zsA,zsB,zsC]
  refine' wpAnyH_take (i := 15) (oi := _) (v := .int .i64 t.bonus) rfl (by kernel_rfl) (by kernel_rfl) (by kernel_rfl) (fun _ _ _ h => h) (Or.inl ⟨by first | (go_simp;done) | rfl,fun X hX => by have cX := hX.2.1;go_simp⟩) hHeld ?_
  try simp only [Act.put,zsA,zsB,zsC]
  refine wpAnyH_ready (rs := [13]) (by kernel_rfl) (by simp) ?_
  refine AllReadyH.cons (o := _) rfl (fun K hK => ?_) AllReadyH.nil
  go_simp
  refine (cC2.out _ B1).mono ?_
  rintro e hb2w ⟨rfl,hb2⟩
  have B2 := Bel.to B1 hb2
  go_wp2_with fail
  refine hK.out _ _ (⟨Bel.cellOf hb2 hHeld.1,Bel.cellOf hb2 hHeld.2.1,Bel.cellOf hb2 hHeld.2.2.1,Bel.cellOf hb2 hHeld.2.2.2.1,Bel.cellOf hb2 hHeld.2.2.2.2.1,Bel.cellOf hb2 hHeld.2.2.2.2.2.1,Bel.cellOf hb2 hHeld.2.2.2.2.2.2.1,Bel.cellOf hb2 hHeld.2.2.2.2.2.2.2⟩) (fun hHeld => ?_)
  clear hK K
  try simp only [Act.put,zsA,zsB,zsC]
  refine' wpAnyH_take (i := 16) (oi := _) (v := .bool false) rfl (by kernel_rfl) (by kernel_rfl) (by kernel_rfl) (fun _ _ _ h => h) (Or.inl ⟨by first | (go_simp;done) | rfl,fun X _ => by go_simp⟩) hHeld ?_
  try simp only [Act.put,zsA,zsB,zsC]
  refine' wpAnyH_take (i := 17) (oi := _) (v := .bool false) rfl (by kernel_rfl) (by kernel_rfl) (by kernel_rfl) (fun _ _ _ h => h) (Or.inl ⟨by first | (go_simp;done) | rfl,fun X _ => by go_simp⟩) hHeld ?_
  try simp only [Act.put,zsA,zsB,zsC]
  refine' wpAnyH_take (i := 18) (oi := _) (v := .bool false) rfl (by kernel_rfl) (by kernel_rfl) (by kernel_rfl) (fun _ _ _ h => h) (Or.inl ⟨by first | (go_simp;done) | rfl,fun X _ => by go_simp⟩) hHeld ?_
  try simp only [Act.put,zsA,zsB,zsC]
  refine' wpAnyH_take (i := 19) (oi := _) (v := undef) rfl (by kernel_rfl) (by kernel_rfl) (by kernel_rfl) (fun _ _ _ h => h) (Or.inr ⟨by first | (go_simp;done) | rfl,rfl⟩) hHeld ?_
  try simp only [Act.put,zsA,zsB,zsC]
  refine' wpAnyH_take (i := 20) (oi := _) (v := undef) rfl (by kernel_rfl) (by kernel_rfl) (by kernel_rfl) (fun _ _ _ h => h) (Or.inr ⟨by first | (go_simp;done) | rfl,rfl⟩) hHeld ?_
  try simp only [Act.put,zsA,zsB,zsC]
  refine' wpAnyH_take (i := 21) (oi := _) (v := undef) rfl (by kernel_rfl) (by kernel_rfl) (by kernel_rfl) (fun _ _ _ h => h) (Or.inr ⟨by first | (go_simp;done) | rfl,rfl⟩) hHeld ?_
  try simp only [Act.put,zsA,zsB,zsC]
  refine' wpAnyH_take (i := 22) (oi := _) (v := undef) rfl (by kernel_rfl) (by kernel_rfl) (by kernel_rfl) (fun _ _ _ h => h) (Or.inr ⟨by first | (go_simp;done) | rfl,rfl⟩) hHeld ?_
  try simp only [Act.put,zsA,zsB,zsC]
  refine' wpAnyH_take (i := 23) (oi := _) (v := undef) rfl (by kernel_rfl) (by kernel_rfl) (by kernel_rfl) (fun _ _ _ h => h) (Or.inr ⟨by first | (go_simp;done) | rfl,rfl⟩) hHeld ?_
  try simp only [Act.put,zsA,zsB,zsC]
  refine' wpAnyH_take (i := 24) (oi := _) (v := undef) rfl (by kernel_rfl) (by kernel_rfl) (by kernel_rfl) (fun _ _ _ h => h) (Or.inr ⟨by first | (go_simp;done) | rfl,rfl⟩) hHeld ?_
  try simp only [Act.put,zsA,zsB,zsC]
  refine' wpAnyH_take (i := 25) (oi := _) (v := undef) rfl (by kernel_rfl) (by kernel_rfl) (by kernel_rfl) (fun _ _ _ h => h) (Or.inr ⟨by first | (go_simp;done) | rfl,rfl⟩) hHeld ?_
  try simp only [Act.put,zsA,zsB,zsC]
  refine' wpAnyH_take (i := 26) (oi := _) (v := undef) rfl (by kernel_rfl) (by kernel_rfl) (by kernel_rfl) (fun _ _ _ h => h) (Or.inr ⟨by first | (go_simp;done) | rfl,rfl⟩) hHeld ?_
  try simp only [Act.put,zsA,zsB,zsC]
  refine' wpAnyH_take (i := 27) (oi := _) (v := .bool false) rfl (by kernel_rfl) (by kernel_rfl) (by kernel_rfl) (fun _ _ _ h => h) (Or.inl ⟨by first | (go_simp;done) | rfl,fun X _ => by go_simp⟩) hHeld ?_
  try simp only [Act.put,zsA,zsB,zsC]
  refine' wpAnyH_take (i := 28) (oi := _) (v := .bool false) rfl (by kernel_rfl) (by kernel_rfl) (by kernel_rfl) (fun _ _ _ h => h) (Or.inl ⟨by first | (go_simp;done) | rfl,fun X _ => by go_simp⟩) hHeld ?_
  try simp only [Act.put,zsA,zsB,zsC]
  refine wpAnyH_done (by kernel_rfl) ?_ _
  go_simp
  clear hHeld
  go_wp2
  go_ret
  exact ⟨rfl,B2⟩
 have d2 : decide (t.bonus ≤ (n2 : Int)) = true := decide_eq_true q2
 by_cases q3 : t.extra ≤ (n3 : Int)
 rotate_left
 ·have d3 : decide (t.extra ≤ (n3 : Int)) = false := decide_eq_false q3
  rw [decide_eq_false (fun h => q3 h.2.2)] at hP1
  subst hP1
  replace q1 := hide q1
  replace q2 := hide q2
  replace q3 := hide q3
  go_upto_region 3 with (fail)
  refine wp_region_held_drew (S := fun X => X.cell? ⟨w.heap.size + 1,0,none⟩ = some (.int .i64 t.main) ∧ X.cell? ⟨w.heap.size + 1,1,none⟩ = some (.int .i64 t.bonus) ∧ X.cell? ⟨w.heap.size + 1,2,none⟩ = some (.int .i64 t.extra) ∧ X.cell? ⟨w.heap.size + 1 + 1,0,none⟩ = some (.slice la ln lc) ∧ X.cell? ⟨w.heap.size + 1 + 1,1,none⟩ = some (.slice ka kn kc) ∧ X.cell? ⟨w.heap.size + 1 + 1 + 1,0,none⟩ = some (.slice ma mn mc) ∧ X.cell? ⟨w.heap.size + 1 + 1 + 1,1,none⟩ = some (.slice ba bn bc) ∧ X.cell? ⟨w.heap.size + 1 + 1 + 1,2,none⟩ = some (.slice xa xn xc)) (by kernel_rfl) (cells) (fun hHeld => ?_)
  refine' wpAnyH_take (i := 0) (oi := _) (v := .pointer (some ⟨w.heap.size + 1 + 1,0,none⟩)) rfl (by kernel_rfl) (by kernel_rfl) (by kernel_rfl) (fun _ _ _ h => h) (Or.inl ⟨by first | (go_simp;done) | rfl,fun X _ => by go_simp⟩) hHeld ?_
  try simp only [Act.put,zsA,zsB,zsC]
  refine' wpAnyH_take (i := 1) (oi := _) (v := .slice la ln lc) rfl (by kernel_rfl) (by kernel_rfl) (by kernel_rfl) (fun _ _ _ h => h) (Or.inl ⟨by first | (go_simp;done) | rfl,fun X hX => by have cX := hX.2.2.2.1;go_simp⟩) hHeld ?_
  try simp only [Act.put,zsA,zsB,zsC]
  refine' wpAnyH_take (i := 2) (oi := _) (v := .pointer (some ⟨w.heap.size + 1 + 1 + 1,0,none⟩)) rfl (by kernel_rfl) (by kernel_rfl) (by kernel_rfl) (fun _ _ _ h => h) (Or.inl ⟨by first | (go_simp;done) | rfl,fun X _ => by go_simp⟩) hHeld ?_
  try simp only [Act.put,zsA,zsB,zsC]
  refine' wpAnyH_take (i := 3) (oi := _) (v := .slice ma mn mc) rfl (by kernel_rfl) (by kernel_rfl) (by kernel_rfl) (fun _ _ _ h => h) (Or.inl ⟨by first | (go_simp;done) | rfl,fun X hX => by have cX := hX.2.2.2.2.2.1;go_simp⟩) hHeld ?_
  try simp only [Act.put,zsA,zsB,zsC]
  refine' wpAnyH_take (i := 5) (oi := _) (v := .pointer (some ⟨w.heap.size + 1,0,none⟩)) rfl (by kernel_rfl) (by kernel_rfl) (by kernel_rfl) (fun _ _ _ h => h) (Or.inl ⟨by first | (go_simp;done) | rfl,fun X _ => by go_simp⟩) hHeld ?_
  try simp only [Act.put,zsA,zsB,zsC]
  refine' wpAnyH_take (i := 6) (oi := _) (v := .int .i64 t.main) rfl (by kernel_rfl) (by kernel_rfl) (by kernel_rfl) (fun _ _ _ h => h) (Or.inl ⟨by first | (go_simp;done) | rfl,fun X hX => by have cX := hX.1;go_simp⟩) hHeld ?_
  try simp only [Act.put,zsA,zsB,zsC]
  refine wpAnyH_ready (rs := [4]) (by kernel_rfl) (by simp) ?_
  refine AllReadyH.cons (o := _) rfl (fun K hK => ?_) AllReadyH.nil
  go_simp
  refine (cC1.out _ BD).mono ?_
  rintro e hb1w ⟨rfl,hb1⟩
  have B1 := Bel.to BD hb1
  go_wp2_with fail
  refine hK.out _ _ (⟨Bel.cellOf hb1 hHeld.1,Bel.cellOf hb1 hHeld.2.1,Bel.cellOf hb1 hHeld.2.2.1,Bel.cellOf hb1 hHeld.2.2.2.1,Bel.cellOf hb1 hHeld.2.2.2.2.1,Bel.cellOf hb1 hHeld.2.2.2.2.2.1,Bel.cellOf hb1 hHeld.2.2.2.2.2.2.1,Bel.cellOf hb1 hHeld.2.2.2.2.2.2.2⟩) (fun hHeld => ?_)
  clear hK K
  try simp only [Act.put,zsA,zsB,zsC]
  refine' wpAnyH_take (i := 7) (oi := _) (v := .bool true) rfl (by kernel_rfl) (by kernel_rfl) (by kernel_rfl) (fun _ _ _ h => h) (Or.inl ⟨by first | (go_simp;done) | rfl,fun X _ => by go_simp⟩) hHeld ?_
  try simp only [Act.put,zsA,zsB,zsC]
  refine' wpAnyH_take (i := 8) (oi := _) (v := .bool true) rfl (by kernel_rfl) (by kernel_rfl) (by kernel_rfl) (fun _ _ _ h => h) (Or.inl ⟨by first | (go_simp;done) | rfl,fun X _ => by go_simp⟩) hHeld ?_
  try simp only [Act.put,zsA,zsB,zsC]
  refine' wpAnyH_take (i := 9) (oi := _) (v := .pointer (some ⟨w.heap.size + 1 + 1,1,none⟩)) rfl (by kernel_rfl) (by kernel_rfl) (by kernel_rfl) (fun _ _ _ h => h) (Or.inl ⟨by first | (go_simp;done) | rfl,fun X _ => by go_simp⟩) hHeld ?_
  try simp only [Act.put,zsA,zsB,zsC]
  refine' wpAnyH_take (i := 10) (oi := _) (v := .slice ka kn kc) rfl (by kernel_rfl) (by kernel_rfl) (by kernel_rfl) (fun _ _ _ h => h) (Or.inl ⟨by first | (go_simp;done) | rfl,fun X hX => by have cX := hX.2.2.2.2.1;go_simp⟩) hHeld ?_
  try simp only [Act.put,zsA,zsB,zsC]
  refine' wpAnyH_take (i := 11) (oi := _) (v := .pointer (some ⟨w.heap.size + 1 + 1 + 1,1,none⟩)) rfl (by kernel_rfl) (by kernel_rfl) (by kernel_rfl) (fun _ _ _ h => h) (Or.inl ⟨by first | (go_simp;done) | rfl,fun X _ => by go_simp⟩) hHeld ?_
  try simp only [Act.put,zsA,zsB,zsC]
  refine' wpAnyH_take (i := 12) (oi := _) (v := .slice ba bn bc) rfl (by kernel_rfl) (by kernel_rfl) (by kernel_rfl) (fun _ _ _ h => h) (Or.inl ⟨by first | (go_simp;done) | rfl,fun X hX => by have cX := hX.2.2.2.2.2.2.1;go_simp⟩) hHeld ?_
  try simp only [Act.put,zsA,zsB,zsC]
  refine' wpAnyH_take (i := 14) (oi := _) (v := .pointer (some ⟨w.heap.size + 1,1,none⟩)) rfl (by kernel_rfl) (by kernel_rfl) (by kernel_rfl) (fun _ _ _ h => h) (Or.inl ⟨by first | (go_simp;done) | rfl,fun X _ => by go_simp⟩) hHeld ?_
  try simp only [Act.put,zsA,zsB,zsC]
  refine' wpAnyH_take (i := 15) (oi := _) (v := .int .i64 t.bonus) rfl (by kernel_rfl) (by kernel_rfl) (by kernel_rfl) (fun _ _ _ h => h) (Or.inl ⟨by first | (go_simp;done) | rfl,fun X hX => by have cX := hX.2.1;go_simp⟩) hHeld ?_
  try simp only [Act.put,zsA,zsB,zsC]
  refine wpAnyH_ready (rs := [13]) (by kernel_rfl) (by simp) ?_
  refine AllReadyH.cons (o := _) rfl (fun K hK => ?_) AllReadyH.nil
  go_simp
  refine (cC2.out _ B1).mono ?_
  rintro e hb2w ⟨rfl,hb2⟩
  have B2 := Bel.to B1 hb2
  go_wp2_with fail
  refine hK.out _ _ (⟨Bel.cellOf hb2 hHeld.1,Bel.cellOf hb2 hHeld.2.1,Bel.cellOf hb2 hHeld.2.2.1,Bel.cellOf hb2 hHeld.2.2.2.1,Bel.cellOf hb2 hHeld.2.2.2.2.1,Bel.cellOf hb2 hHeld.2.2.2.2.2.1,Bel.cellOf hb2 hHeld.2.2.2.2.2.2.1,Bel.cellOf hb2 hHeld.2.2.2.2.2.2.2⟩) (fun hHeld => ?_)
  clear hK K
  try simp only [Act.put,zsA,zsB,zsC]
  refine' wpAnyH_take (i := 16) (oi := _) (v := .bool true) rfl (by kernel_rfl) (by kernel_rfl) (by kernel_rfl) (fun _ _ _ h => h) (Or.inl ⟨by first | (go_simp;done) | rfl,fun X _ => by go_simp⟩) hHeld ?_
  try simp only [Act.put,zsA,zsB,zsC]
  refine' wpAnyH_take (i := 17) (oi := _) (v := .bool true) rfl (by kernel_rfl) (by kernel_rfl) (by kernel_rfl) (fun _ _ _ h => h) (Or.inl ⟨by first | (go_simp;done) | rfl,fun X _ => by go_simp⟩) hHeld ?_
  try simp only [Act.put,zsA,zsB,zsC]
  refine' wpAnyH_take (i := 18) (oi := _) (v := .bool true) rfl (by kernel_rfl) (by kernel_rfl) (by kernel_rfl) (fun _ _ _ h => h) (Or.inl ⟨by first | (go_simp;done) | rfl,fun X _ => by go_simp⟩) hHeld ?_
  try simp only [Act.put,zsA,zsB,zsC]
  refine' wpAnyH_take (i := 19) (oi := _) (v := .pointer (some ⟨w.heap.size + 1 + 1,0,none⟩)) rfl (by kernel_rfl) (by kernel_rfl) (by kernel_rfl) (fun _ _ _ h => h) (Or.inl ⟨by first | (go_simp;done) | rfl,fun X _ => by go_simp⟩) hHeld ?_
  try simp only [Act.put,zsA,zsB,zsC]
  refine' wpAnyH_take (i := 20) (oi := _) (v := .slice la ln lc) rfl (by kernel_rfl) (by kernel_rfl) (by kernel_rfl) (fun _ _ _ h => h) (Or.inl ⟨by first | (go_simp;done) | rfl,fun X hX => by have cX := hX.2.2.2.1;go_simp⟩) hHeld ?_
  try simp only [Act.put,zsA,zsB,zsC]
  refine' wpAnyH_take (i := 21) (oi := _) (v := .pointer (some ⟨w.heap.size + 1 + 1 + 1,2,none⟩)) rfl (by kernel_rfl) (by kernel_rfl) (by kernel_rfl) (fun _ _ _ h => h) (Or.inl ⟨by first | (go_simp;done) | rfl,fun X _ => by go_simp⟩) hHeld ?_
  try simp only [Act.put,zsA,zsB,zsC]
  refine' wpAnyH_take (i := 22) (oi := _) (v := .slice xa xn xc) rfl (by kernel_rfl) (by kernel_rfl) (by kernel_rfl) (fun _ _ _ h => h) (Or.inl ⟨by first | (go_simp;done) | rfl,fun X hX => by have cX := hX.2.2.2.2.2.2.2;go_simp⟩) hHeld ?_
  try simp only [Act.put,zsA,zsB,zsC]
  refine' wpAnyH_take (i := 24) (oi := _) (v := .pointer (some ⟨w.heap.size + 1,2,none⟩)) rfl (by kernel_rfl) (by kernel_rfl) (by kernel_rfl) (fun _ _ _ h => h) (Or.inl ⟨by first | (go_simp;done) | rfl,fun X _ => by go_simp⟩) hHeld ?_
  try simp only [Act.put,zsA,zsB,zsC]
  refine' wpAnyH_take (i := 25) (oi := _) (v := .int .i64 t.extra) rfl (by kernel_rfl) (by kernel_rfl) (by kernel_rfl) (fun _ _ _ h => h) (Or.inl ⟨by first | (go_simp;done) | rfl,fun X hX => by have cX := hX.2.2.1;go_simp⟩) hHeld ?_
  try simp only [Act.put,zsA,zsB,zsC]
  refine wpAnyH_ready (rs := [23]) (by kernel_rfl) (by simp) ?_
  refine AllReadyH.cons (o := _) rfl (fun K hK => ?_) AllReadyH.nil
  go_simp
  refine (cC3.out _ B2).mono ?_
  rintro e hb3w ⟨rfl,hb3⟩
  have B3 := Bel.to B2 hb3
  go_wp2_with fail
  refine hK.out _ _ (⟨Bel.cellOf hb3 hHeld.1,Bel.cellOf hb3 hHeld.2.1,Bel.cellOf hb3 hHeld.2.2.1,Bel.cellOf hb3 hHeld.2.2.2.1,Bel.cellOf hb3 hHeld.2.2.2.2.1,Bel.cellOf hb3 hHeld.2.2.2.2.2.1,Bel.cellOf hb3 hHeld.2.2.2.2.2.2.1,Bel.cellOf hb3 hHeld.2.2.2.2.2.2.2⟩) (fun hHeld => ?_)
  clear hK K
  try simp only [Act.put,zsA,zsB,zsC]
  refine' wpAnyH_take (i := 26) (oi := _) (v := .bool false) rfl (by kernel_rfl) (by kernel_rfl) (by kernel_rfl) (fun _ _ _ h => h) (Or.inl ⟨by first | (go_simp;done) | rfl,fun X _ => by go_simp⟩) hHeld ?_
  try simp only [Act.put,zsA,zsB,zsC]
  refine' wpAnyH_take (i := 27) (oi := _) (v := .bool false) rfl (by kernel_rfl) (by kernel_rfl) (by kernel_rfl) (fun _ _ _ h => h) (Or.inl ⟨by first | (go_simp;done) | rfl,fun X _ => by go_simp⟩) hHeld ?_
  try simp only [Act.put,zsA,zsB,zsC]
  refine' wpAnyH_take (i := 28) (oi := _) (v := .bool false) rfl (by kernel_rfl) (by kernel_rfl) (by kernel_rfl) (fun _ _ _ h => h) (Or.inl ⟨by first | (go_simp;done) | rfl,fun X _ => by go_simp⟩) hHeld ?_
  try simp only [Act.put,zsA,zsB,zsC]
  refine wpAnyH_done (by kernel_rfl) ?_ _
  go_simp
  clear hHeld
  go_wp2
  go_ret
  exact ⟨rfl,B3⟩
 ·have d3 : decide (t.extra ≤ (n3 : Int)) = true := decide_eq_true q3
  rw [decide_eq_true ⟨q1,q2,q3⟩] at hP1
  subst hP1
  replace q1 := hide q1
  replace q2 := hide q2
  replace q3 := hide q3
  go_upto_region 3 with (fail)
  refine wp_region_held_drew (S := fun X => X.cell? ⟨w.heap.size + 1,0,none⟩ = some (.int .i64 t.main) ∧ X.cell? ⟨w.heap.size + 1,1,none⟩ = some (.int .i64 t.bonus) ∧ X.cell? ⟨w.heap.size + 1,2,none⟩ = some (.int .i64 t.extra) ∧ X.cell? ⟨w.heap.size + 1 + 1,0,none⟩ = some (.slice la ln lc) ∧ X.cell? ⟨w.heap.size + 1 + 1,1,none⟩ = some (.slice ka kn kc) ∧ X.cell? ⟨w.heap.size + 1 + 1 + 1,0,none⟩ = some (.slice ma mn mc) ∧ X.cell? ⟨w.heap.size + 1 + 1 + 1,1,none⟩ = some (.slice ba bn bc) ∧ X.cell? ⟨w.heap.size + 1 + 1 + 1,2,none⟩ = some (.slice xa xn xc)) (by kernel_rfl) (cells) (fun hHeld => ?_)
  refine' wpAnyH_take (i := 0) (oi := _) (v := .pointer (some ⟨w.heap.size + 1 + 1,0,none⟩)) rfl (by kernel_rfl) (by kernel_rfl) (by kernel_rfl) (fun _ _ _ h => h) (Or.inl ⟨by first | (go_simp;done) | rfl,fun X _ => by go_simp⟩) hHeld ?_
  try simp only [Act.put,zsA,zsB,zsC]
  refine' wpAnyH_take (i := 1) (oi := _) (v := .slice la ln lc) rfl (by kernel_rfl) (by kernel_rfl) (by kernel_rfl) (fun _ _ _ h => h) (Or.inl ⟨by first | (go_simp;done) | rfl,fun X hX => by have cX := hX.2.2.2.1;go_simp⟩) hHeld ?_
  try simp only [Act.put,zsA,zsB,zsC]
  refine' wpAnyH_take (i := 2) (oi := _) (v := .pointer (some ⟨w.heap.size + 1 + 1 + 1,0,none⟩)) rfl (by kernel_rfl) (by kernel_rfl) (by kernel_rfl) (fun _ _ _ h => h) (Or.inl ⟨by first | (go_simp;done) | rfl,fun X _ => by go_simp⟩) hHeld ?_
  try simp only [Act.put,zsA,zsB,zsC]
  refine' wpAnyH_take (i := 3) (oi := _) (v := .slice ma mn mc) rfl (by kernel_rfl) (by kernel_rfl) (by kernel_rfl) (fun _ _ _ h => h) (Or.inl ⟨by first | (go_simp;done) | rfl,fun X hX => by have cX := hX.2.2.2.2.2.1;go_simp⟩) hHeld ?_
  try simp only [Act.put,zsA,zsB,zsC]
  refine' wpAnyH_take (i := 5) (oi := _) (v := .pointer (some ⟨w.heap.size + 1,0,none⟩)) rfl (by kernel_rfl) (by kernel_rfl) (by kernel_rfl) (fun _ _ _ h => h) (Or.inl ⟨by first | (go_simp;done) | rfl,fun X _ => by go_simp⟩) hHeld ?_
  try simp only [Act.put,zsA,zsB,zsC]
  refine' wpAnyH_take (i := 6) (oi := _) (v := .int .i64 t.main) rfl (by kernel_rfl) (by kernel_rfl) (by kernel_rfl) (fun _ _ _ h => h) (Or.inl ⟨by first | (go_simp;done) | rfl,fun X hX => by have cX := hX.1;go_simp⟩) hHeld ?_
  try simp only [Act.put,zsA,zsB,zsC]
  refine wpAnyH_ready (rs := [4]) (by kernel_rfl) (by simp) ?_
  refine AllReadyH.cons (o := _) rfl (fun K hK => ?_) AllReadyH.nil
  go_simp
  refine (cC1.out _ BD).mono ?_
  rintro e hb1w ⟨rfl,hb1⟩
  have B1 := Bel.to BD hb1
  go_wp2_with fail
  refine hK.out _ _ (⟨Bel.cellOf hb1 hHeld.1,Bel.cellOf hb1 hHeld.2.1,Bel.cellOf hb1 hHeld.2.2.1,Bel.cellOf hb1 hHeld.2.2.2.1,Bel.cellOf hb1 hHeld.2.2.2.2.1,Bel.cellOf hb1 hHeld.2.2.2.2.2.1,Bel.cellOf hb1 hHeld.2.2.2.2.2.2.1,Bel.cellOf hb1 hHeld.2.2.2.2.2.2.2⟩) (fun hHeld => ?_)
  clear hK K
  try simp only [Act.put,zsA,zsB,zsC]
  refine' wpAnyH_take (i := 7) (oi := _) (v := .bool true) rfl (by kernel_rfl) (by kernel_rfl) (by kernel_rfl) (fun _ _ _ h => h) (Or.inl ⟨by first | (go_simp;done) | rfl,fun X _ => by go_simp⟩) hHeld ?_
  try simp only [Act.put,zsA,zsB,zsC]
  refine' wpAnyH_take (i := 8) (oi := _) (v := .bool true) rfl (by kernel_rfl) (by kernel_rfl) (by kernel_rfl) (fun _ _ _ h => h) (Or.inl ⟨by first | (go_simp;done) | rfl,fun X _ => by go_simp⟩) hHeld ?_
  try simp only [Act.put,zsA,zsB,zsC]
  refine' wpAnyH_take (i := 9) (oi := _) (v := .pointer (some ⟨w.heap.size + 1 + 1,1,none⟩)) rfl (by kernel_rfl) (by kernel_rfl) (by kernel_rfl) (fun _ _ _ h => h) (Or.inl ⟨by first | (go_simp;done) | rfl,fun X _ => by go_simp⟩) hHeld ?_
  try simp only [Act.put,zsA,zsB,zsC]
  refine' wpAnyH_take (i := 10) (oi := _) (v := .slice ka kn kc) rfl (by kernel_rfl) (by kernel_rfl) (by kernel_rfl) (fun _ _ _ h => h) (Or.inl ⟨by first | (go_simp;done) | rfl,fun X hX => by have cX := hX.2.2.2.2.1;go_simp⟩) hHeld ?_
  try simp only [Act.put,zsA,zsB,zsC]
  refine' wpAnyH_take (i := 11) (oi := _) (v := .pointer (some ⟨w.heap.size + 1 + 1 + 1,1,none⟩)) rfl (by kernel_rfl) (by kernel_rfl) (by kernel_rfl) (fun _ _ _ h => h) (Or.inl ⟨by first | (go_simp;done) | rfl,fun X _ => by go_simp⟩) hHeld ?_
  try simp only [Act.put,zsA,zsB,zsC]
  refine' wpAnyH_take (i := 12) (oi := _) (v := .slice ba bn bc) rfl (by kernel_rfl) (by kernel_rfl) (by kernel_rfl) (fun _ _ _ h => h) (Or.inl ⟨by first | (go_simp;done) | rfl,fun X hX => by have cX := hX.2.2.2.2.2.2.1;go_simp⟩) hHeld ?_
  try simp only [Act.put,zsA,zsB,zsC]
  refine' wpAnyH_take (i := 14) (oi := _) (v := .pointer (some ⟨w.heap.size + 1,1,none⟩)) rfl (by kernel_rfl) (by kernel_rfl) (by kernel_rfl) (fun _ _ _ h => h) (Or.inl ⟨by first | (go_simp;done) | rfl,fun X _ => by go_simp⟩) hHeld ?_
  try simp only [Act.put,zsA,zsB,zsC]
  refine' wpAnyH_take (i := 15) (oi := _) (v := .int .i64 t.bonus) rfl (by kernel_rfl) (by kernel_rfl) (by kernel_rfl) (fun _ _ _ h => h) (Or.inl ⟨by first | (go_simp;done) | rfl,fun X hX => by have cX := hX.2.1;go_simp⟩) hHeld ?_
  try simp only [Act.put,zsA,zsB,zsC]
  refine wpAnyH_ready (rs := [13]) (by kernel_rfl) (by simp) ?_
  refine AllReadyH.cons (o := _) rfl (fun K hK => ?_) AllReadyH.nil
  go_simp
  refine (cC2.out _ B1).mono ?_
  rintro e hb2w ⟨rfl,hb2⟩
  have B2 := Bel.to B1 hb2
  go_wp2_with fail
  refine hK.out _ _ (⟨Bel.cellOf hb2 hHeld.1,Bel.cellOf hb2 hHeld.2.1,Bel.cellOf hb2 hHeld.2.2.1,Bel.cellOf hb2 hHeld.2.2.2.1,Bel.cellOf hb2 hHeld.2.2.2.2.1,Bel.cellOf hb2 hHeld.2.2.2.2.2.1,Bel.cellOf hb2 hHeld.2.2.2.2.2.2.1,Bel.cellOf hb2 hHeld.2.2.2.2.2.2.2⟩) (fun hHeld => ?_)
  clear hK K
  try simp only [Act.put,zsA,zsB,zsC]
  refine' wpAnyH_take (i := 16) (oi := _) (v := .bool true) rfl (by kernel_rfl) (by kernel_rfl) (by kernel_rfl) (fun _ _ _ h => h) (Or.inl ⟨by first | (go_simp;done) | rfl,fun X _ => by go_simp⟩) hHeld ?_
  try simp only [Act.put,zsA,zsB,zsC]
  refine' wpAnyH_take (i := 17) (oi := _) (v := .bool true) rfl (by kernel_rfl) (by kernel_rfl) (by kernel_rfl) (fun _ _ _ h => h) (Or.inl ⟨by first | (go_simp;done) | rfl,fun X _ => by go_simp⟩) hHeld ?_
  try simp only [Act.put,zsA,zsB,zsC]
  refine' wpAnyH_take (i := 18) (oi := _) (v := .bool true) rfl (by kernel_rfl) (by kernel_rfl) (by kernel_rfl) (fun _ _ _ h => h) (Or.inl ⟨by first | (go_simp;done) | rfl,fun X _ => by go_simp⟩) hHeld ?_
  try simp only [Act.put,zsA,zsB,zsC]
  refine' wpAnyH_take (i := 19) (oi := _) (v := .pointer (some ⟨w.heap.size + 1 + 1,0,none⟩)) rfl (by kernel_rfl) (by kernel_rfl) (by kernel_rfl) (fun _ _ _ h => h) (Or.inl ⟨by first | (go_simp;done) | rfl,fun X _ => by go_simp⟩) hHeld ?_
  try simp only [Act.put,zsA,zsB,zsC]
  refine' wpAnyH_take (i := 20) (oi := _) (v := .slice la ln lc) rfl (by kernel_rfl) (by kernel_rfl) (by kernel_rfl) (fun _ _ _ h => h) (Or.inl ⟨by first | (go_simp;done) | rfl,fun X hX => by have cX := hX.2.2.2.1;go_simp⟩) hHeld ?_
  try simp only [Act.put,zsA,zsB,zsC]
  refine' wpAnyH_take (i := 21) (oi := _) (v := .pointer (some ⟨w.heap.size + 1 + 1 + 1,2,none⟩)) rfl (by kernel_rfl) (by kernel_rfl) (by kernel_rfl) (fun _ _ _ h => h) (Or.inl ⟨by first | (go_simp;done) | rfl,fun X _ => by go_simp⟩) hHeld ?_
  try simp only [Act.put,zsA,zsB,zsC]
  refine' wpAnyH_take (i := 22) (oi := _) (v := .slice xa xn xc) rfl (by kernel_rfl) (by kernel_rfl) (by kernel_rfl) (fun _ _ _ h => h) (Or.inl ⟨by first | (go_simp;done) | rfl,fun X hX => by have cX := hX.2.2.2.2.2.2.2;go_simp⟩) hHeld ?_
  try simp only [Act.put,zsA,zsB,zsC]
  refine' wpAnyH_take (i := 24) (oi := _) (v := .pointer (some ⟨w.heap.size + 1,2,none⟩)) rfl (by kernel_rfl) (by kernel_rfl) (by kernel_rfl) (fun _ _ _ h => h) (Or.inl ⟨by first | (go_simp;done) | rfl,fun X _ => by go_simp⟩) hHeld ?_
  try simp only [Act.put,zsA,zsB,zsC]
  refine' wpAnyH_take (i := 25) (oi := _) (v := .int .i64 t.extra) rfl (by kernel_rfl) (by kernel_rfl) (by kernel_rfl) (fun _ _ _ h => h) (Or.inl ⟨by first | (go_simp;done) | rfl,fun X hX => by have cX := hX.2.2.1;go_simp⟩) hHeld ?_
  try simp only [Act.put,zsA,zsB,zsC]
  refine wpAnyH_ready (rs := [23]) (by kernel_rfl) (by simp) ?_
  refine AllReadyH.cons (o := _) rfl (fun K hK => ?_) AllReadyH.nil
  go_simp
  refine (cC3.out _ B2).mono ?_
  rintro e hb3w ⟨rfl,hb3⟩
  have B3 := Bel.to B2 hb3
  go_wp2_with fail
  refine hK.out _ _ (⟨Bel.cellOf hb3 hHeld.1,Bel.cellOf hb3 hHeld.2.1,Bel.cellOf hb3 hHeld.2.2.1,Bel.cellOf hb3 hHeld.2.2.2.1,Bel.cellOf hb3 hHeld.2.2.2.2.1,Bel.cellOf hb3 hHeld.2.2.2.2.2.1,Bel.cellOf hb3 hHeld.2.2.2.2.2.2.1,Bel.cellOf hb3 hHeld.2.2.2.2.2.2.2⟩) (fun hHeld => ?_)
  clear hK K
  try simp only [Act.put,zsA,zsB,zsC]
  refine' wpAnyH_take (i := 26) (oi := _) (v := .bool true) rfl (by kernel_rfl) (by kernel_rfl) (by kernel_rfl) (fun _ _ _ h => h) (Or.inl ⟨by first | (go_simp;done) | rfl,fun X _ => by go_simp⟩) hHeld ?_
  try simp only [Act.put,zsA,zsB,zsC]
  refine' wpAnyH_take (i := 27) (oi := _) (v := .bool true) rfl (by kernel_rfl) (by kernel_rfl) (by kernel_rfl) (fun _ _ _ h => h) (Or.inl ⟨by first | (go_simp;done) | rfl,fun X _ => by go_simp⟩) hHeld ?_
  try simp only [Act.put,zsA,zsB,zsC]
  refine' wpAnyH_take (i := 28) (oi := _) (v := .bool true) rfl (by kernel_rfl) (by kernel_rfl) (by kernel_rfl) (fun _ _ _ h => h) (Or.inl ⟨by first | (go_simp;done) | rfl,fun X _ => by go_simp⟩) hHeld ?_
  try simp only [Act.put,zsA,zsB,zsC]
  refine wpAnyH_done (by kernel_rfl) ?_ _
  go_simp
  clear hHeld
  go_wp2
  go_ret
  exact ⟨rfl,B3⟩
theorem checkM_cases {g : GameD} {x : LineD} {r : ResD} : checkM g x r = if gameE g ≠ 0 then gameE g else if lineE g x.1 x.2 ≠ 0 then lineE g x.1 x.2 else resE g r := by
 unfold checkM
 by_cases h : gameE g = 0
 ·rw [if_neg (show ¬ gameE g ≠ 0 by simpa using h)]
 ·rw [if_pos (show gameE g ≠ 0 from h)]
  have : lineE g x.1 x.2 = gameE g := by unfold lineE;rw [if_pos h]
  rw [this,if_pos h]
set_option maxHeartbeats 8000000 in
set_option maxRecDepth 100000 in
theorem check32_any (g : GameD) (av tv lv kv mv bv xv : Value) (ms : List AddonM) (x : LineD) (r : ResD) (w : World) (hg : GameR w av tv ms g) (hl : LineR w lv kv x.1 x.2) (hr : ResR w mv bv xv r) (hs : r.serial.size ≤ 9223372036854775807) :
  Calls Tryz.prog 97 #[gameVal g av tv,lineVal lv kv,resVal mv bv xv r] w (IntB (checkM g x r) w) := by
 have cC := hide (fun X (hX : Below w.heap.size w X) => rcheck_any g av tv ms X (hg.below hX))
 have cL := hide (fun X (hX : Below w.heap.size w X) => rlcheck_any g av tv lv kv ms x.1 x.2 X (hg.below hX) (hl.below hX))
 have cR := hide (fun X (hX : Below w.heap.size w X) => rcheck28_any g av tv mv bv xv ms r X (hg.below hX) (hr.below hX) hs)
 rw [checkM_cases]
 obtain ⟨P,hP⟩ : ∃ P,P = if gameE g ≠ 0 then gameE g else if lineE g x.1 x.2 ≠ 0 then lineE g x.1 x.2 else resE g r := ⟨_,rfl⟩
 rw [← hP]
 obtain ⟨la,ln,lc,rfl⟩ := Rd.shape hl.1
 obtain ⟨ka,kn,kc,rfl⟩ := Rd.shape hl.2
 obtain ⟨ma,mn,mc,rfl⟩ := Rd.shape hr.1
 obtain ⟨ba,bn,bc,rfl⟩ := Rd.shape hr.2.1
 obtain ⟨xa,xn,xc,rfl⟩ := Rd.shape hr.2.2
 obtain ⟨aa,ac,rfl,-,-⟩ := hg.1.1.shape
 obtain ⟨ta,tc,rfl,htl,htm⟩ := hg.2.2.shape
 obtain ⟨M,hM⟩ : ∃ M,M = g.tiers.length := ⟨_,rfl⟩
 rw [← hM] at cC cL cR ⊢
 unfold gameVal at cC
 unfold gameVal lineVal at cL
 unfold gameVal resVal at cR
 unfold gameVal lineVal resVal
 clear hg hl hr htl htm hM
 by_cases he : gameE g = 0
 rotate_left
 ·rw [if_pos he] at hP
  obtain ⟨c,hc⟩ : ∃ c,c = gameE g := ⟨_,rfl⟩
  rw [← hc] at hP cC he
  subst hP
  have hcb : (P != 0) = true := by simpa using he
  replace he := hide he
  clear hc cL cR
  go_enter Tryz.func97,Tryz.ntmps97
  go_upto_region 1 with (fail)
  obtain ⟨W,hW⟩ : ∃ W,W = (((w.alloc (Obj.cells #[.string g.name,.int .i64 g.kind,.int .i64 g.price,.int .i64 g.main,.int .i64 g.of,.int .i64 g.bonus,.int .i64 g.bonusOf,.int .i64 g.extra,.int .i64 g.draws,.int .i64 g.system,.int .i64 g.days,.int .i64 g.at_,.int .i64 g.close,.int .i64 g.cancel,.int .i64 g.expiry,.int .i64 g.pool,.int .i64 g.reserve,.int .i64 g.round,.int .i64 g.cap,.int .i64 g.rolls,(.slice aa ms.length ac),(.slice ta M tc)] 25)).alloc (Obj.cells #[(.slice la ln lc),(.slice ka kn kc)] 41)).alloc (Obj.cells #[.slice ma mn mc,.slice ba bn bc,.slice xa xn xc,.int .i64 r.factor,.string r.serial] 29)) := ⟨_,rfl⟩
  have bW : Below w.heap.size w W := by rw [hW];exact Bel.al (Bel.al (Bel.al (Below.refl _ _) _) _) _
  have r0 : GameAt W (w.heap.size) g ((.slice aa ms.length ac)) ((.slice ta M tc)) := by rw [hW];exact Row.alloc (Row.alloc (Row.new _ _ _) _) _
  have r1 : LineAt W (w.heap.size + 1) ((.slice la ln lc)) ((.slice ka kn kc)) := by rw [hW];exact Row.alloc (Row.at2 _ _ _ _) _
  have r2 : Row W ((w.heap.size + 1 + 1)) 29 [.slice ma mn mc,.slice ba bn bc,.slice xa xn xc,.int .i64 r.factor,.string r.serial] := by rw [hW];exact Row.at3 _ _ _ _ _
  have sW : w.heap.size + 1 + 1 < W.heap.size := by rw [hW];simp
  rw [← hW]
  clear hW
  go_wp2_with (first | (refine wpList_load_row rfl 25 _ rfl _ rfl _ _ _ _ r0 Tryz.underlying25 rfl (by kernel_rfl) ?_) | fail)
  refine (cC.out _ bW).mono ?_
  rintro e w1 ⟨s,rfl,hb1⟩
  go_wp2
  go_ret
  exact ⟨rfl,Bel.to bW hb1⟩
 rw [if_neg (by simpa using he)] at hP
 rw [he] at cC
 replace he := hide he
 by_cases hn : lineE g x.1 x.2 = 0
 rotate_left
 ·rw [if_pos hn] at hP
  obtain ⟨c,hc⟩ : ∃ c,c = lineE g x.1 x.2 := ⟨_,rfl⟩
  rw [← hc] at hP cL hn
  subst hP
  have hcb : (P != 0) = true := by simpa using hn
  replace hn := hide hn
  clear hc cR
  go_enter Tryz.func97,Tryz.ntmps97
  go_upto_region 1 with (fail)
  obtain ⟨W,hW⟩ : ∃ W,W = (((w.alloc (Obj.cells #[.string g.name,.int .i64 g.kind,.int .i64 g.price,.int .i64 g.main,.int .i64 g.of,.int .i64 g.bonus,.int .i64 g.bonusOf,.int .i64 g.extra,.int .i64 g.draws,.int .i64 g.system,.int .i64 g.days,.int .i64 g.at_,.int .i64 g.close,.int .i64 g.cancel,.int .i64 g.expiry,.int .i64 g.pool,.int .i64 g.reserve,.int .i64 g.round,.int .i64 g.cap,.int .i64 g.rolls,(.slice aa ms.length ac),(.slice ta M tc)] 25)).alloc (Obj.cells #[(.slice la ln lc),(.slice ka kn kc)] 41)).alloc (Obj.cells #[.slice ma mn mc,.slice ba bn bc,.slice xa xn xc,.int .i64 r.factor,.string r.serial] 29)) := ⟨_,rfl⟩
  have bW : Below w.heap.size w W := by rw [hW];exact Bel.al (Bel.al (Bel.al (Below.refl _ _) _) _) _
  have r0 : GameAt W (w.heap.size) g ((.slice aa ms.length ac)) ((.slice ta M tc)) := by rw [hW];exact Row.alloc (Row.alloc (Row.new _ _ _) _) _
  have r1 : LineAt W (w.heap.size + 1) ((.slice la ln lc)) ((.slice ka kn kc)) := by rw [hW];exact Row.alloc (Row.at2 _ _ _ _) _
  have r2 : Row W ((w.heap.size + 1 + 1)) 29 [.slice ma mn mc,.slice ba bn bc,.slice xa xn xc,.int .i64 r.factor,.string r.serial] := by rw [hW];exact Row.at3 _ _ _ _ _
  have sW : w.heap.size + 1 + 1 < W.heap.size := by rw [hW];simp
  rw [← hW]
  clear hW
  go_wp2_with (first | (refine wpList_load_row rfl 25 _ rfl _ rfl _ _ _ _ r0 Tryz.underlying25 rfl (by kernel_rfl) ?_) | fail)
  refine (cC.out _ bW).mono ?_
  rintro e w1 ⟨s,rfl,hb1⟩
  have B1 := Bel.to bW hb1
  have r0 := r0.keep hb1
  have r1 := r1.keep hb1
  go_wp2_with (first | (refine wpList_load_row rfl 25 _ rfl _ rfl _ _ _ _ r0 Tryz.underlying25 rfl (by kernel_rfl) ?_) | (refine wpList_load_row rfl 41 _ rfl _ rfl _ _ _ _ r1 Tryz.underlying41 rfl (by kernel_rfl) ?_) | fail)
  refine (cL.out _ B1).mono ?_
  rintro e w2 ⟨rfl,hb2⟩
  go_wp2
  go_ret
  exact ⟨rfl,Bel.to B1 hb2⟩
 ·rw [if_neg (by simpa using hn)] at hP
  rw [hn] at cL
  rw [← hP] at cR
  replace hP := hide hP
  replace hn := hide hn
  go_enter Tryz.func97,Tryz.ntmps97
  go_upto_region 1 with (fail)
  obtain ⟨W,hW⟩ : ∃ W,W = (((w.alloc (Obj.cells #[.string g.name,.int .i64 g.kind,.int .i64 g.price,.int .i64 g.main,.int .i64 g.of,.int .i64 g.bonus,.int .i64 g.bonusOf,.int .i64 g.extra,.int .i64 g.draws,.int .i64 g.system,.int .i64 g.days,.int .i64 g.at_,.int .i64 g.close,.int .i64 g.cancel,.int .i64 g.expiry,.int .i64 g.pool,.int .i64 g.reserve,.int .i64 g.round,.int .i64 g.cap,.int .i64 g.rolls,(.slice aa ms.length ac),(.slice ta M tc)] 25)).alloc (Obj.cells #[(.slice la ln lc),(.slice ka kn kc)] 41)).alloc (Obj.cells #[.slice ma mn mc,.slice ba bn bc,.slice xa xn xc,.int .i64 r.factor,.string r.serial] 29)) := ⟨_,rfl⟩
  have bW : Below w.heap.size w W := by rw [hW];exact Bel.al (Bel.al (Bel.al (Below.refl _ _) _) _) _
  have r0 : GameAt W (w.heap.size) g ((.slice aa ms.length ac)) ((.slice ta M tc)) := by rw [hW];exact Row.alloc (Row.alloc (Row.new _ _ _) _) _
  have r1 : LineAt W (w.heap.size + 1) ((.slice la ln lc)) ((.slice ka kn kc)) := by rw [hW];exact Row.alloc (Row.at2 _ _ _ _) _
  have r2 : Row W ((w.heap.size + 1 + 1)) 29 [.slice ma mn mc,.slice ba bn bc,.slice xa xn xc,.int .i64 r.factor,.string r.serial] := by rw [hW];exact Row.at3 _ _ _ _ _
  have sW : w.heap.size + 1 + 1 < W.heap.size := by rw [hW];simp
  rw [← hW]
  clear hW
  go_wp2_with (first | (refine wpList_load_row rfl 25 _ rfl _ rfl _ _ _ _ r0 Tryz.underlying25 rfl (by kernel_rfl) ?_) | fail)
  refine (cC.out _ bW).mono ?_
  rintro e w1 ⟨s,rfl,hb1⟩
  have B1 := Bel.to bW hb1
  have r0 := r0.keep hb1
  have r1 := r1.keep hb1
  have r2 := Row.keep r2 hb1
  go_wp2_with (first | (refine wpList_load_row rfl 25 _ rfl _ rfl _ _ _ _ r0 Tryz.underlying25 rfl (by kernel_rfl) ?_) | (refine wpList_load_row rfl 41 _ rfl _ rfl _ _ _ _ r1 Tryz.underlying41 rfl (by kernel_rfl) ?_) | fail)
  refine (cL.out _ B1).mono ?_
  rintro e w2 ⟨rfl,hb2⟩
  have B2 := Bel.to B1 hb2
  have r0 := r0.keep hb2
  have r2 := Row.keep r2 hb2
  go_wp2_with (first | (refine wpList_load_row rfl 25 _ rfl _ rfl _ _ _ _ r0 Tryz.underlying25 rfl (by kernel_rfl) ?_) | (refine wpList_load_row rfl 29 _ rfl _ rfl _ _ _ _ r2 Tryz.underlying29 rfl (by kernel_rfl) ?_) | fail)
  refine (cR.out _ B2).mono ?_
  rintro e w3 ⟨rfl,hb3⟩
  go_wp2
  go_ret
  exact ⟨rfl,Bel.to B2 hb3⟩
theorem tierGo_drop {f : TierD → Bool} {l : List TierD} {i : Nat} (h : i < l.length) : tierGo f (l.drop i) i = if f l[i] then (i : Int) else tierGo f (l.drop (i + 1)) (i + 1) := by
 rw [List.drop_eq_getElem_cons h,tierGo]
set_option maxHeartbeats 8000000 in
set_option maxRecDepth 100000 in
theorem tier32_any (g : GameD) (av tv lv kv mv bv xv : Value) (ms : List AddonM) (x : LineD) (r : ResD) (w : World) (hg : GameR w av tv ms g) (hl : LineR w lv kv x.1 x.2) (hr : ResR w mv bv xv r) (hs : r.serial.size ≤ 9223372036854775807) :
  Calls Tryz.prog 57 #[gameVal g av tv,lineVal lv kv,resVal mv bv xv r] w (IntC (tierP g x r).1 (tierP g x r).2 w) := by
 have cK := hide (fun X (hX : Below w.heap.size w X) => check32_any g av tv lv kv mv bv xv ms x r X (hg.below hX) (hl.below hX) (hr.below hX) hs)
 have cW := hide (fun X (hX : Below w.heap.size w X) (t : TierD) (h1 : ∃ a n c,av = .slice a n c) (h2 : ∃ a n c,tv = .slice a n c) => wins32_any g t av tv lv kv mv bv xv x r X (hl.below hX) (hr.below hX) h1 h2)
 have hT := hide (fun X (hX : Below w.heap.size w X) => (hg.below hX).2.2)
 obtain ⟨la,ln,lc,rfl⟩ := Rd.shape hl.1
 obtain ⟨ka,kn,kc,rfl⟩ := Rd.shape hl.2
 obtain ⟨ma,mn,mc,rfl⟩ := Rd.shape hr.1
 obtain ⟨ba,bn,bc,rfl⟩ := Rd.shape hr.2.1
 obtain ⟨xa,xn,xc,rfl⟩ := Rd.shape hr.2.2
 obtain ⟨aa,ac,rfl,-,-⟩ := hg.1.1.shape
 obtain ⟨ta,tc,rfl,htl,htm⟩ := hg.2.2.shape
 obtain ⟨M,hM⟩ : ∃ M,M = g.tiers.length := ⟨_,rfl⟩
 have hM63 : (M : Int) ≤ 9223372036854775807 := by unfold maxLen at htm;omega
 rw [← hM] at cK cW hT ⊢
 unfold gameVal lineVal resVal at cK
 unfold gameVal tierVal lineVal resVal at cW
 unfold gameVal lineVal resVal
 unfold tierP
 replace hM := hide hM
 clear hg hl hr htl htm
 by_cases hc : checkM g x r = 0
 rotate_left
 ·rw [if_pos hc]
  obtain ⟨c,hcc⟩ : ∃ c,c = checkM g x r := ⟨_,rfl⟩
  rw [← hcc] at cK hc ⊢
  have hcb : (c != 0) = true := by simpa using hc
  replace hc := hide hc
  clear hcc cW hT
  go_enter Tryz.func57,Tryz.ntmps57
  go_upto_region 1 with (fail)
  obtain ⟨W,hW⟩ : ∃ W,W = (((w.alloc (Obj.cells #[.string g.name,.int .i64 g.kind,.int .i64 g.price,.int .i64 g.main,.int .i64 g.of,.int .i64 g.bonus,.int .i64 g.bonusOf,.int .i64 g.extra,.int .i64 g.draws,.int .i64 g.system,.int .i64 g.days,.int .i64 g.at_,.int .i64 g.close,.int .i64 g.cancel,.int .i64 g.expiry,.int .i64 g.pool,.int .i64 g.reserve,.int .i64 g.round,.int .i64 g.cap,.int .i64 g.rolls,(.slice aa ms.length ac),(.slice ta M tc)] 25)).alloc (Obj.cells #[(.slice la ln lc),(.slice ka kn kc)] 41)).alloc (Obj.cells #[.slice ma mn mc,.slice ba bn bc,.slice xa xn xc,.int .i64 r.factor,.string r.serial] 29)) := ⟨_,rfl⟩
  have bW : Below w.heap.size w W := by rw [hW];exact Bel.al (Bel.al (Bel.al (Below.refl _ _) _) _) _
  have r0 : GameAt W (w.heap.size) g ((.slice aa ms.length ac)) ((.slice ta M tc)) := by rw [hW];exact Row.alloc (Row.alloc (Row.new _ _ _) _) _
  have r1 : LineAt W (w.heap.size + 1) ((.slice la ln lc)) ((.slice ka kn kc)) := by rw [hW];exact Row.alloc (Row.at2 _ _ _ _) _
  have r2 : Row W ((w.heap.size + 1 + 1)) 29 [.slice ma mn mc,.slice ba bn bc,.slice xa xn xc,.int .i64 r.factor,.string r.serial] := by rw [hW];exact Row.at3 _ _ _ _ _
  have sW : w.heap.size + 1 + 1 < W.heap.size := by rw [hW];simp
  rw [← hW]
  clear hW
  go_wp2_with (first | (refine wpList_load_row rfl 25 _ rfl _ rfl _ _ _ _ r0 Tryz.underlying25 rfl (by kernel_rfl) ?_) | (refine wpList_load_row rfl 41 _ rfl _ rfl _ _ _ _ r1 Tryz.underlying41 rfl (by kernel_rfl) ?_) | (refine wpList_load_row rfl 29 _ rfl _ rfl _ _ _ _ r2 Tryz.underlying29 rfl (by kernel_rfl) ?_) | fail)
  refine (cK.out _ bW).mono ?_
  rintro e w1 ⟨rfl,hb1⟩
  go_wp2
  go_ret2
  exact ⟨rfl,Bel.to bW hb1⟩
 rw [if_neg (by simpa using hc)]
 rw [hc] at cK
 obtain ⟨R,hR⟩ : ∃ R,R = tierM g x r := ⟨_,rfl⟩
 rw [← hR]
 have hR0 : Hid (tierGo (meetM g x r) (g.tiers.drop 0) 0 = R) := by show _ = _;rw [List.drop_zero,hR];rfl
 replace hc := hide hc
 clear hR
 go_enter Tryz.func57,Tryz.ntmps57
 go_upto_region 1 with (fail)
 obtain ⟨W,hW⟩ : ∃ W,W = (((w.alloc (Obj.cells #[.string g.name,.int .i64 g.kind,.int .i64 g.price,.int .i64 g.main,.int .i64 g.of,.int .i64 g.bonus,.int .i64 g.bonusOf,.int .i64 g.extra,.int .i64 g.draws,.int .i64 g.system,.int .i64 g.days,.int .i64 g.at_,.int .i64 g.close,.int .i64 g.cancel,.int .i64 g.expiry,.int .i64 g.pool,.int .i64 g.reserve,.int .i64 g.round,.int .i64 g.cap,.int .i64 g.rolls,(.slice aa ms.length ac),(.slice ta M tc)] 25)).alloc (Obj.cells #[(.slice la ln lc),(.slice ka kn kc)] 41)).alloc (Obj.cells #[.slice ma mn mc,.slice ba bn bc,.slice xa xn xc,.int .i64 r.factor,.string r.serial] 29)) := ⟨_,rfl⟩
 have bW : Below w.heap.size w W := by rw [hW];exact Bel.al (Bel.al (Bel.al (Below.refl _ _) _) _) _
 have r0 : GameAt W (w.heap.size) g ((.slice aa ms.length ac)) ((.slice ta M tc)) := by rw [hW];exact Row.alloc (Row.alloc (Row.new _ _ _) _) _
 have r1 : LineAt W (w.heap.size + 1) ((.slice la ln lc)) ((.slice ka kn kc)) := by rw [hW];exact Row.alloc (Row.at2 _ _ _ _) _
 have r2 : Row W ((w.heap.size + 1 + 1)) 29 [.slice ma mn mc,.slice ba bn bc,.slice xa xn xc,.int .i64 r.factor,.string r.serial] := by rw [hW];exact Row.at3 _ _ _ _ _
 have sW : w.heap.size + 1 + 1 < W.heap.size := by rw [hW];simp
 rw [← hW]
 clear hW
 go_wp2_with (first | (refine wpList_load_row rfl 25 _ rfl _ rfl _ _ _ _ r0 Tryz.underlying25 rfl (by kernel_rfl) ?_) | (refine wpList_load_row rfl 41 _ rfl _ rfl _ _ _ _ r1 Tryz.underlying41 rfl (by kernel_rfl) ?_) | (refine wpList_load_row rfl 29 _ rfl _ rfl _ _ _ _ r2 Tryz.underlying29 rfl (by kernel_rfl) ?_) | fail)
 refine (cK.out _ bW).mono ?_
 rintro e w1 ⟨rfl,hb1⟩
 have B1 := hide (Bel.to bW hb1)
 have Q0 := hide (r0.keep hb1)
 have Q1 := hide (r1.keep hb1)
 have Q2 := hide (Row.keep r2 hb1)
 clear r0 r1 r2 hb1 bW cK
 go_wp2
 go_loopg [9] M (fun gh t9 wr => ∃ (i : Nat),gh = M - i ∧ i ≤ M ∧ t9 = .int .i64 (i : Int) ∧ Hid (Below w1.heap.size w1 wr) ∧ Hid (tierGo (meetM g x r) (g.tiers.drop i) i = R))
 case atStart => exact ⟨0,rfl,Nat.zero_le _,rfl,Below.refl _ _,hR0⟩
 case round =>
  obtain ⟨i,hgh,hi,rfl,hB,hRi⟩ := hrel
  replace hgh := hide hgh
  have R0 : Row wr w.heap.size 25 (gameCells g (.slice aa ms.length ac) (.slice ta M tc)) := Row.keep Q0.out hB.out
  have R1 : Row wr (w.heap.size + 1) 41 [.slice la ln lc,.slice ka kn kc] := Row.keep Q1.out hB.out
  have R2 : Row wr (w.heap.size + 1 + 1) 29 [.slice ma mn mc,.slice ba bn bc,.slice xa xn xc,.int .i64 r.factor,.string r.serial] := Row.keep Q2.out hB.out
  have x21 : wr.cell? ⟨w.heap.size,21,none⟩ = some (.slice ta M tc) := (R0.cell? 21).trans rfl
  have BW : Below w.heap.size w wr := Bel.to B1.out hB.out
  by_cases hlt : i < M
  ·have hlt2 := hide hlt
   have hil : i < g.tiers.length := by rw [← hM.out];exact hlt
   obtain ⟨b9,o9,rfl,hb9',hcell⟩ := (hT.out wr BW).at_ hil
   obtain ⟨t,ht⟩ : ∃ t,t = g.tiers[i] := ⟨_,rfl⟩
   have hti : g.tiers[i]? = some t := by rw [ht];exact List.getElem?_eq_getElem hil
   have hrange : wr.drew.rangeAt b9 (o9 + i * 6) [.int .i64 t.main,.int .i64 t.bonus,.int .i64 t.extra,.int .i64 t.mode,.int .i64 t.kind,.int .i64 t.value] := fun j u hu => hcell i t hti j u hu
   have hR2 := hRi.out
   rw [tierGo_drop hil,← ht] at hR2
   have bd : Below wr.heap.size wr wr.drew := Below.drewSelf wr
   have cT := hide (cW.out wr.drew (Bel.to BW bd) t ⟨_,_,_,rfl⟩ ⟨_,_,_,rfl⟩)
   have i1 : (0 : Int) ≤ (i : Int) := by omega
   have i2 : (i : Int) < (M : Int) := by omega
   obtain ⟨q,hq⟩ : ∃ q,q = meetM g x r t := ⟨_,rfl⟩
   rw [← hq] at cT hR2
   clear hcell hti ht hRi hq
   cases q with
   | true =>
    rw [if_pos rfl] at hR2
    subst hR2
    go_upto_region 7 with (fail)
    refine wp_region_held_drew (S := fun X => Rng X [(w.heap.size,gameCells g (.slice aa ms.length ac) (.slice (some ⟨b9,o9,none⟩) M tc)),(w.heap.size + 1,[.slice la ln lc,.slice ka kn kc]),(w.heap.size + 1 + 1,[.slice ma mn mc,.slice ba bn bc,.slice xa xn xc,.int .i64 r.factor,.string r.serial])] ∧ X.rangeAt b9 (o9 + i * 6) [.int .i64 t.main,.int .i64 t.bonus,.int .i64 t.extra,.int .i64 t.mode,.int .i64 t.kind,.int .i64 t.value]) (by kernel_rfl) (⟨Rng.drew (Rng.cons R0 (Rng.cons R1 (Rng.cons R2 (Rng.nil _)))),hrange⟩) (fun hHeld => ?_)
    refine' wpAnyH_take (i := 0) (oi := _) (v := _) rfl (by kernel_rfl) (by kernel_rfl) (by kernel_rfl) (fun _ _ _ h => h) (yieldsIf_load_mid (by first | (go_simp;done) | rfl) 25 (.tmp 3) rfl (w.heap.size) (0) rfl (gameCells g (.slice aa ms.length ac) (.slice (some ⟨b9,o9,none⟩) M tc)) _ (fun X h => Rng.at0 h.1) Tryz.underlying25 rfl (by kernel_rfl)) hHeld ?_
    try simp only [Act.put,zsA,zsB,zsC]
    refine' wpAnyH_take (i := 1) (oi := _) (v := .pointer (some ⟨w.heap.size,21,none⟩)) rfl (by kernel_rfl) (by kernel_rfl) (by kernel_rfl) (fun _ _ _ h => h) (Or.inl ⟨by first | (go_simp;done) | rfl,fun X _ => by go_simp⟩) hHeld ?_
    try simp only [Act.put,zsA,zsB,zsC]
    refine' wpAnyH_take (i := 2) (oi := _) (v := .slice (some ⟨b9,o9,none⟩) M tc) rfl (by kernel_rfl) (by kernel_rfl) (by kernel_rfl) (fun _ _ _ h => h) (Or.inl ⟨by first | (go_simp;done) | rfl,fun X hX => by have cX := Rng.cell0 hX.1 21 _ rfl;go_simp⟩) hHeld ?_
    try simp only [Act.put,zsA,zsB,zsC]
    refine' wpAnyH_take (i := 3) (oi := _) (v := .int .i64 (i : Int)) rfl (by kernel_rfl) (by kernel_rfl) (by kernel_rfl) (fun _ _ _ h => h) (Or.inl ⟨by first | (go_simp;done) | rfl,fun X _ => by go_simp⟩) hHeld ?_
    try simp only [Act.put,zsA,zsB,zsC]
    refine' wpAnyH_take (i := 4) (oi := _) (v := .pointer (some ⟨b9,o9 + i * 6,none⟩)) rfl (by kernel_rfl) (by kernel_rfl) (by kernel_rfl) (fun _ _ _ h => h) (Or.inl ⟨by first | (go_simp;done) | rfl,fun X _ => by go_simp⟩) hHeld ?_
    try simp only [Act.put,zsA,zsB,zsC]
    refine' wpAnyH_take (i := 5) (oi := _) (v := .agg #[.int .i64 t.main,.int .i64 t.bonus,.int .i64 t.extra,.int .i64 t.mode,.int .i64 t.kind,.int .i64 t.value]) rfl (by kernel_rfl) (by kernel_rfl) (by kernel_rfl) (fun _ _ _ h => h) (by refine (yieldsIf_load_mid ?_ 82 (.tmp 28) rfl b9 (o9 + i * 6) ?_ ([.int .i64 t.main,.int .i64 t.bonus,.int .i64 t.extra,.int .i64 t.mode,.int .i64 t.kind,.int .i64 t.value]) _ (fun X h => h.2) Tryz.underlying82 rfl (by kernel_rfl)) <;> go_simp) hHeld ?_
    try simp only [Act.put,zsA,zsB,zsC]
    refine' wpAnyH_take (i := 6) (oi := _) (v := .agg #[.slice la ln lc,.slice ka kn kc]) rfl (by kernel_rfl) (by kernel_rfl) (by kernel_rfl) (fun _ _ _ h => h) (by refine (yieldsIf_load_mid ?_ 41 (.tmp 4) rfl (w.heap.size + 1) (0) ?_ ([.slice la ln lc,.slice ka kn kc]) _ (fun X h => Rng.at1 h.1) Tryz.underlying41 rfl (by kernel_rfl)) <;> go_simp) hHeld ?_
    try simp only [Act.put,zsA,zsB,zsC]
    refine' wpAnyH_take (i := 7) (oi := _) (v := .agg #[.slice ma mn mc,.slice ba bn bc,.slice xa xn xc,.int .i64 r.factor,.string r.serial]) rfl (by kernel_rfl) (by kernel_rfl) (by kernel_rfl) (fun _ _ _ h => h) (by refine (yieldsIf_load_mid ?_ 29 (.tmp 5) rfl (w.heap.size + 1 + 1) (0) ?_ ([.slice ma mn mc,.slice ba bn bc,.slice xa xn xc,.int .i64 r.factor,.string r.serial]) _ (fun X h => Rng.at2 h.1) Tryz.underlying29 rfl (by kernel_rfl)) <;> go_simp) hHeld ?_
    try simp only [Act.put,zsA,zsB,zsC]
    refine wpAnyH_ready (rs := [8]) (by kernel_rfl) (by simp) ?_
    refine AllReadyH.cons (o := _) rfl (fun K hK => ?_) AllReadyH.nil
    go_simp
    refine (cT.out).mono ?_
    rintro e w9 ⟨rfl,hb9⟩
    go_wp2_with fail
    refine hK.out _ _ (⟨Rng.keep hHeld.1 hb9,fun j u hu => Bel.cellOf hb9 (hHeld.2 j u hu)⟩) (fun hHeld => ?_)
    clear hK K
    try simp only [Act.put,zsA,zsB,zsC]
    refine wpAnyH_done (by kernel_rfl) ?_ _
    go_simp
    clear hHeld
    go_wp2
    go_ret2
    exact ⟨rfl,Bel.to BW (Bel.to bd hb9)⟩
   | false =>
    rw [if_neg (by simp)] at hR2
    replace hR2 := hide hR2
    go_upto_region 7 with (fail)
    refine wp_region_held_drew (S := fun X => Rng X [(w.heap.size,gameCells g (.slice aa ms.length ac) (.slice (some ⟨b9,o9,none⟩) M tc)),(w.heap.size + 1,[.slice la ln lc,.slice ka kn kc]),(w.heap.size + 1 + 1,[.slice ma mn mc,.slice ba bn bc,.slice xa xn xc,.int .i64 r.factor,.string r.serial])] ∧ X.rangeAt b9 (o9 + i * 6) [.int .i64 t.main,.int .i64 t.bonus,.int .i64 t.extra,.int .i64 t.mode,.int .i64 t.kind,.int .i64 t.value]) (by kernel_rfl) (⟨Rng.drew (Rng.cons R0 (Rng.cons R1 (Rng.cons R2 (Rng.nil _)))),hrange⟩) (fun hHeld => ?_)
    refine' wpAnyH_take (i := 0) (oi := _) (v := _) rfl (by kernel_rfl) (by kernel_rfl) (by kernel_rfl) (fun _ _ _ h => h) (yieldsIf_load_mid (by first | (go_simp;done) | rfl) 25 (.tmp 3) rfl (w.heap.size) (0) rfl (gameCells g (.slice aa ms.length ac) (.slice (some ⟨b9,o9,none⟩) M tc)) _ (fun X h => Rng.at0 h.1) Tryz.underlying25 rfl (by kernel_rfl)) hHeld ?_
    try simp only [Act.put,zsA,zsB,zsC]
    refine' wpAnyH_take (i := 1) (oi := _) (v := .pointer (some ⟨w.heap.size,21,none⟩)) rfl (by kernel_rfl) (by kernel_rfl) (by kernel_rfl) (fun _ _ _ h => h) (Or.inl ⟨by first | (go_simp;done) | rfl,fun X _ => by go_simp⟩) hHeld ?_
    try simp only [Act.put,zsA,zsB,zsC]
    refine' wpAnyH_take (i := 2) (oi := _) (v := .slice (some ⟨b9,o9,none⟩) M tc) rfl (by kernel_rfl) (by kernel_rfl) (by kernel_rfl) (fun _ _ _ h => h) (Or.inl ⟨by first | (go_simp;done) | rfl,fun X hX => by have cX := Rng.cell0 hX.1 21 _ rfl;go_simp⟩) hHeld ?_
    try simp only [Act.put,zsA,zsB,zsC]
    refine' wpAnyH_take (i := 3) (oi := _) (v := .int .i64 (i : Int)) rfl (by kernel_rfl) (by kernel_rfl) (by kernel_rfl) (fun _ _ _ h => h) (Or.inl ⟨by first | (go_simp;done) | rfl,fun X _ => by go_simp⟩) hHeld ?_
    try simp only [Act.put,zsA,zsB,zsC]
    refine' wpAnyH_take (i := 4) (oi := _) (v := .pointer (some ⟨b9,o9 + i * 6,none⟩)) rfl (by kernel_rfl) (by kernel_rfl) (by kernel_rfl) (fun _ _ _ h => h) (Or.inl ⟨by first | (go_simp;done) | rfl,fun X _ => by go_simp⟩) hHeld ?_
    try simp only [Act.put,zsA,zsB,zsC]
    refine' wpAnyH_take (i := 5) (oi := _) (v := .agg #[.int .i64 t.main,.int .i64 t.bonus,.int .i64 t.extra,.int .i64 t.mode,.int .i64 t.kind,.int .i64 t.value]) rfl (by kernel_rfl) (by kernel_rfl) (by kernel_rfl) (fun _ _ _ h => h) (by refine (yieldsIf_load_mid ?_ 82 (.tmp 28) rfl b9 (o9 + i * 6) ?_ ([.int .i64 t.main,.int .i64 t.bonus,.int .i64 t.extra,.int .i64 t.mode,.int .i64 t.kind,.int .i64 t.value]) _ (fun X h => h.2) Tryz.underlying82 rfl (by kernel_rfl)) <;> go_simp) hHeld ?_
    try simp only [Act.put,zsA,zsB,zsC]
    refine' wpAnyH_take (i := 6) (oi := _) (v := .agg #[.slice la ln lc,.slice ka kn kc]) rfl (by kernel_rfl) (by kernel_rfl) (by kernel_rfl) (fun _ _ _ h => h) (by refine (yieldsIf_load_mid ?_ 41 (.tmp 4) rfl (w.heap.size + 1) (0) ?_ ([.slice la ln lc,.slice ka kn kc]) _ (fun X h => Rng.at1 h.1) Tryz.underlying41 rfl (by kernel_rfl)) <;> go_simp) hHeld ?_
    try simp only [Act.put,zsA,zsB,zsC]
    refine' wpAnyH_take (i := 7) (oi := _) (v := .agg #[.slice ma mn mc,.slice ba bn bc,.slice xa xn xc,.int .i64 r.factor,.string r.serial]) rfl (by kernel_rfl) (by kernel_rfl) (by kernel_rfl) (fun _ _ _ h => h) (by refine (yieldsIf_load_mid ?_ 29 (.tmp 5) rfl (w.heap.size + 1 + 1) (0) ?_ ([.slice ma mn mc,.slice ba bn bc,.slice xa xn xc,.int .i64 r.factor,.string r.serial]) _ (fun X h => Rng.at2 h.1) Tryz.underlying29 rfl (by kernel_rfl)) <;> go_simp) hHeld ?_
    try simp only [Act.put,zsA,zsB,zsC]
    refine wpAnyH_ready (rs := [8]) (by kernel_rfl) (by simp) ?_
    refine AllReadyH.cons (o := _) rfl (fun K hK => ?_) AllReadyH.nil
    go_simp
    refine (cT.out).mono ?_
    rintro e w9 ⟨rfl,hb9⟩
    go_wp2_with fail
    refine hK.out _ _ (⟨Rng.keep hHeld.1 hb9,fun j u hu => Bel.cellOf hb9 (hHeld.2 j u hu)⟩) (fun hHeld => ?_)
    clear hK K
    try simp only [Act.put,zsA,zsB,zsC]
    refine wpAnyH_done (by kernel_rfl) ?_ _
    go_simp
    clear hHeld
    have hB9 : Hid (Below w1.heap.size w1 w9) := Bel.to hB.out (Bel.to bd hb9)
    clear R0 R1 R2 x21 BW hrange bd hb9 hB cT
    go_wp2
    go_roundg (M - (i + 1))
    case measure => have := hgh.out;have := hlt2.out;omega
    case rel => exact ⟨i + 1,rfl,by have := hlt2.out;omega,by go_num,hB9,hR2⟩
  ·have hR2 := hRi.out
   rw [List.drop_eq_nil_of_le (by have := hM.out;omega)] at hR2
   have hR3 : R = -1 := hR2.symm
   subst hR3
   have i2 : ¬ (i : Int) < (M : Int) := by omega
   clear hRi hR2 R0 R1 R2
   go_wp2
   go_ret2
   exact ⟨rfl,BW⟩
end Go.Proofs.YtmocomkobbiflaaGreat
end

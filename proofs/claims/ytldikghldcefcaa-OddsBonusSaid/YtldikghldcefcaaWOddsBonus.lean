/- OddsBonus: for every input the Go function lotterylaw35.OddsBonus returns true, and each argument reads afterwards as before. Conditions: none. -/
import Derived.Deep.AppendLies
import Derived.Laws.OwnMore
import Derived.Test.YtldikghldcefcaaRows
import Derived.WalkKit
import Derived.ProofKit
import Derived.OpenShut
import Derived.ChangeOld
import Derived.Below
import Derived.Test.YtldikghldcefcaaHI
import Derived.Test.YtldikghldcefcaaHK
section
open Go.RowKit
set_option linter.unusedVariables false
set_option linter.unusedSimpArgs false
namespace Go.Proofs.Ytldikghldcefcaa
theorem win_zero {g : GameD} {V : Int → Nat} {t : Int} (h : (WinO g V t).2 = 0) : gameE g = 0 ∧ (WinO g V t).1 = V t := by
 unfold WinO at h ⊢
 by_cases he : gameE g = 0
 ·rw [if_neg (by simpa using he)] at h ⊢
  split at h
  ·exact absurd h (by decide)
  ·next h2 => rw [if_neg h2];exact ⟨he,rfl⟩
 ·rw [if_pos he] at h
  exact absurd h he
theorem chance_cho (g : GameD) (hk : g.kind ≠ 2) (t : Int) (av tv : Value) (ms : List AddonM) (X : World) (rg : GameR X av tv ms g) :
  Calls Try.prog 15 #[gameVal g av tv,.int .i64 t] X (FracC (if (WinO g (winC g) t).2 = 0 then (WinO g (winC g) t).1 / Nat.gcd (WinO g (winC g) t).1 (outN g) else 0) (if (WinO g (winC g) t).2 = 0 then outN g / Nat.gcd (WinO g (winC g) t).1 (outN g) else 0) (WinO g (winC g) t).2 X) :=
 oChance_any g av tv ms (winC g) t X rg _ _ rfl (fun h0 => by
  have h := win_zero h0
  rw [h.2]
  have := winC_limbs (choF h.1 hk) t
  omega) (fun he t X _ _ hX => owin_choose g av tv ms t X hX he hk)
theorem bonus_any (g : GameD) (hk : g.kind ≠ 2) (hz : ∀ t ∈ g.tiers,t.bonus = 0) (t : Int) : ∃ (p1 q1 : Nat) (C1 : Int) (p2 q2 : Nat) (C2 : Int),(C1 = 0 → C2 = 0 → p1 = p2 ∧ q1 = q2) ∧
  (∀ (X : World) (av tv : Value) (ms : List AddonM),GameR X av tv ms g → Calls Try.prog 15 #[gameVal g av tv,.int .i64 t] X (FracC p1 q1 C1 X)) ∧
  (∀ (X : World) (av tv : Value) (ms : List AddonM),GameR X av tv ms (noB g) → Calls Try.prog 15 #[gameVal (noB g) av tv,.int .i64 t] X (FracC p2 q2 C2 X)) := by
 refine ⟨_,_,_,_,_,_,fun h1 h2 => ?_,fun X av tv ms h => chance_cho g hk t av tv ms X h,fun X av tv ms h => chance_cho (noB g) hk t av tv ms X h⟩
 have e1 := win_zero h1
 have e2 := win_zero h2
 rw [if_pos h1,if_pos h1,if_pos h2,if_pos h2,e1.2,e2.2]
 exact bonus_frac g hk (choF e1.1 hk) hz t
theorem tier_one (l : List TierD) : ∀ x ∈ l,∀ u ∈ tierCells x,u.oneCell' = true := by
 intro x hx u hu
 simp [tierCells] at hu;rcases hu with rfl | rfl | rfl | rfl | rfl | rfl <;> rfl
abbrev TOwn (w : World) (base : Nat) (v : Value) (l : List TierD) : Prop := OwnS 6 tierCells (fun _ _ => True) w base 48 v l
set_option maxHeartbeats 16000000 in
set_option maxRecDepth 100000 in
theorem bonus35_any (g : GameD) (av tv : Value) (ms : List AddonM) (t : Int) (w : World) (rg : GameR w av tv ms g) :
  Calls Try.prog 6 #[gameVal g av tv,.int .i64 t] w (BoolB true w) := by
 have cA := hide (fun X => awake35_any X)
 have cF := hide (fun X (hX : Below w.heap.size w X) => few35_any g av tv ms X (rg.below hX))
 have rgh := hide rg
 obtain ⟨aa,ac,rfl,hal,ham⟩ := rg.1.1.shape
 obtain ⟨ta,tc,rfl,htl,htm⟩ := rg.2.2.shape
 obtain ⟨an,han⟩ : ∃ an,an = ms.length := ⟨_,rfl⟩
 obtain ⟨tn,htn⟩ : ∃ tn,tn = g.tiers.length := ⟨_,rfl⟩
 have htb : (tn : Int) ≤ 9223372036854775807 := by unfold maxLen at htm;omega
 rw [← han,← htn] at cF rgh ⊢
 replace htn := hide htn
 clear rg hal ham htl htm han
 unfold gameVal at cF ⊢
 go_enter Try.func6,Try.ntmps6
 go_upto_region 1 with (fail)
 obtain ⟨W,hW⟩ : ∃ W,W = (w.alloc (Obj.cells #[.string g.name,.int .i64 g.kind,.int .i64 g.price,.int .i64 g.main,.int .i64 g.of,.int .i64 g.bonus,.int .i64 g.bonusOf,.int .i64 g.extra,.int .i64 g.draws,.int .i64 g.system,.int .i64 g.days,.int .i64 g.at_,.int .i64 g.close,.int .i64 g.cancel,.int .i64 g.expiry,.int .i64 g.pool,.int .i64 g.reserve,.int .i64 g.round,.int .i64 g.cap,.int .i64 g.rolls,(.slice aa an ac),(.slice ta tn tc)] 25)) := ⟨_,rfl⟩
 have bel : Below w.heap.size w W := by rw [hW];exact Bel.al (Below.refl _ _) _
 have r0 : GameAt W w.heap.size g (.slice aa an ac) (.slice ta tn tc) := by rw [hW];exact Row.new _ _ _
 rw [← hW]
 clear hW
 have cF2 := hide (cF.out W bel)
 clear cF
 go_wp2_with (first | (refine wpList_load_row rfl 25 _ rfl _ rfl _ _ _ _ r0 Try.underlying25 rfl (by kernel_rfl) ?_) | fail)
 refine cF2.out.mono ?_
 rintro e w1 ⟨bb,rfl,h50,hb⟩
 replace bel := Bel.to bel hb
 replace r0 := r0.keep hb
 clear cF2 hb
 have ck := r0.kind
 cases bb
 ·clear h50
  go_wp2_with fail
  refine (cA.out _).mono ?_
  rintro e wz ⟨rfl,hz⟩
  go_wp2
  go_ret
  exact ⟨rfl,Bel.to bel hz⟩
 ·have h51 := hide ((h50 rfl).2)
  clear h50
  by_cases hk : g.kind = 1
  rotate_left
  ·have hk1 : (g.kind != 1) = true := by simpa using hk
   go_wp2_with fail
   refine (cA.out _).mono ?_
   rintro e wz ⟨rfl,hz⟩
   go_wp2
   go_ret
   exact ⟨rfl,Bel.to bel hz⟩
  ·have hk1 : (g.kind != 1) = false := by simpa using hk
   replace hk := hide hk
   have c21 : w1.cell? ⟨w.heap.size,21,none⟩ = some (.slice ta tn tc) := r0.tiers
   have b0 : w.heap.size < w1.heap.size := r0.lt
   have b0h := hide b0
   have hT := hide (rgh.out.below bel).2.2
   go_wp2_with (first | (with_reducible refine wpList_appendS _ rfl _ _ 23 rfl (sz := 6) (V := tierCells) (R := fun _ _ => True) tier_lenL w1.heap.size 48 (.agg #[.int .i64 0,.int .i64 0,.int .i64 0,.int .i64 0,.int .i64 0,.int .i64 0]) 48 Try.underlying23 infoTL rfl (by decide) _ [] rfl ?_ _ g.tiers rfl ?_ ?_ ?_ ?_ ?_ ?_ ?_) | fail)
   case refine_1 => exact ⟨World.ownsRow_made w1 #[] 0 (Nat.le_refl _) (by decide) rfl,fun x hx => by cases hx⟩
   case refine_2 => exact hT.out.below (Bel.al (Below.refl _ _) _)
   case refine_3 => exact fun _ _ _ _ => trivial
   case refine_4 => exact tier_one g.tiers
   case refine_5 => have h8 := h51.out;have h9 := htn.out;simp;omega
   case refine_6 => have h8 := h51.out;have h9 := htn.out;simp;omega
   case refine_7 => simp
   intro v2 W2 ho2 hg2 hv2
   have f2 : GameAt W2 w.heap.size g (.slice aa an ac) (.slice ta tn tc) := Row.grown (Row.alloc r0 _) hg2 (fun e => by have e : some w.heap.size = some w1.heap.size := e;injection e with e;have := b0h.out;omega)
   have bel2 : Below w.heap.size w W2 := Below.grown (Bel.al bel _) hg2 (by have := b0h.out;simp;omega) (fun j hj => by have hj : some w1.heap.size = some j := hj;injection hj with hj;have := b0h.out;omega)
   have hsh := ho2.shape
   rw [← htn.out] at hsh
   obtain ⟨a2,c2,rfl⟩ := hsh
   clear hg2 hv2 r0 bel c21 hT ck
   have c21 : W2.cell? ⟨w.heap.size,21,none⟩ = some (.slice ta tn tc) := f2.tiers
   have f21 := Row.frozen f2 21
   go_upto_region 4 with (fail)
   obtain ⟨W3,hW3⟩ : ∃ X,X = W2.setCell ⟨w.heap.size,21,none⟩ (.slice a2 tn c2) := ⟨_,rfl⟩
   have r0 : GameAt W3 w.heap.size g (.slice aa an ac) (.slice a2 tn c2) := by rw [hW3];exact Row.set f2 21 _
   have ho3 : TOwn W3 w1.heap.size (.slice a2 tn c2) g.tiers := by rw [hW3];exact ⟨ownsRow_setCell_below ho2.1 (show w.heap.size < w1.heap.size from b0h.out) _,fun _ _ _ _ => trivial⟩
   have bel : Below w.heap.size w W3 := by rw [hW3];exact Bel.st bel2 (Nat.le_refl _) _
   rw [← hW3]
   obtain ⟨bs,hbs⟩ : ∃ b,b = w1.heap.size := ⟨_,rfl⟩
   have b0b : Hid (w.heap.size < bs) := by rw [hbs];exact b0h.out
   rw [← hbs] at ho3
   clear hW3 f2 ho2 bel2 c21 f21 hbs b0h b0
   have c21 := r0.tiers
   go_wp2
   clear c21
   go_loopg [28] tn (fun gh ti wr => ∃ i : Nat,gh = tn - i ∧ i ≤ tn ∧ ti = .int .i64 (i : Int) ∧ TOwn wr bs (.slice a2 tn c2) (setB g.tiers i) ∧ GameAt wr w.heap.size g (.slice aa an ac) (.slice a2 tn c2) ∧ Below w.heap.size w wr)
   case atStart => exact ⟨0,rfl,Nat.zero_le _,rfl,(by cases hq : g.tiers <;> simpa [setB,hq] using ho3),r0,bel⟩
   case round =>
    clear ho3 r0 bel
    obtain ⟨i,hgi,hi,rfl,ho,r0,bel⟩ := hrel
    replace hgi := hide hgi
    have c21 := r0.tiers
    by_cases hlt : i < tn
    ·have hlt2 := hide hlt
     have hil : i < g.tiers.length := by rw [← htn.out];exact hlt
     have hl := setB_len g.tiers i
     have hown := ho.1
     rw [hl,← htn.out] at hown
     obtain ⟨gb,cb,hv,hgb,hgl⟩ := World.ownsRow.form hown (by omega)
     injection hv with hv1 hv2 hv3
     subst hv1 hv3
     have hcell := World.ownsRow.cellAt hown (i * 6 + 1) (by omega)
     have hfro := World.ownsRow.frozenAt hown (i * 6 + 1)
     have hlen : i * 6 + 1 < ((setB g.tiers i).flatMap tierCells).length := by rw [flatS_len tier_lenL,hl];omega
     obtain ⟨cv,hcv⟩ : ∃ v,((setB g.tiers i).flatMap tierCells)[i * 6 + 1]? = some v := ⟨_,List.getElem?_eq_getElem hlen⟩
     rw [hcv] at hcell
     have hst := (World.ownsRow.stored hown (i * 6 + 1) (.int .i64 0)).1
     rw [setB_set _ _ hil] at hst
     have ho2 : TOwn (wr.setCell ⟨gb,i * 6 + 1,none⟩ (.int .i64 0)) bs (.slice (some ⟨gb,0,none⟩) tn c2) (setB g.tiers (i + 1)) := ⟨by rw [setB_len,← htn.out];exact hst,fun _ _ _ _ => trivial⟩
     have r2 : GameAt (wr.setCell ⟨gb,i * 6 + 1,none⟩ (.int .i64 0)) w.heap.size g (.slice aa an ac) (.slice (some ⟨gb,0,none⟩) tn c2) := Row.far r0 (p := ⟨gb,i * 6 + 1,none⟩) (show w.heap.size ≠ gb by have := b0b.out;omega) _
     have bel2 := Bel.st bel (p := ⟨gb,i * 6 + 1,none⟩) (show w.heap.size ≤ gb by have := b0b.out;omega) (.int .i64 0)
     have i1 : (0 : Int) ≤ (i : Int) := by omega
     have i2 : (i : Int) < (tn : Int) := by omega
     clear hst hown hcv hlen hl hil ho r0 bel hgb hgl
     go_wp2
     go_roundg (tn - (i + 1))
     case measure => have := hgi.out;have := hlt2.out;omega
     case rel => exact ⟨i + 1,rfl,by have := hlt2.out;omega,by go_num,ho2,r2,bel2⟩
    ·obtain rfl : tn = i := by omega
     have hl := setB_len g.tiers tn
     have hz : setB g.tiers tn = g.tiers.map zeroB := by rw [htn.out];exact setB_all _
     rw [hz] at ho
     obtain ⟨g2,hg2⟩ : ∃ g2 : GameD,g2 = { g with tiers := g.tiers.map zeroB } := ⟨_,rfl⟩
     have hG2 : GameR wr (.slice aa an ac) (.slice a2 tn c2) ms g2 := by rw [hg2];exact ⟨(rgh.out.below bel).1,rgh.out.2.1,OwnS.rd tier_lenL ho⟩
     have hG3 : GameR wr (.slice aa an ac) (.slice a2 tn c2) ms (noB g2) := hG2
     obtain ⟨p1,q1,C1,p2,q2,C2,hE,hC1,hC2⟩ := bonus_any g2 (by rw [hg2];show g.kind ≠ 2;rw [hk.out];decide) (by rw [hg2];intro t ht;obtain ⟨t',_,rfl⟩ := List.mem_map.1 ht;rfl) t
     have hC1 : Hid (∀ (X : World),GameR X (.slice aa an ac) (.slice a2 tn c2) ms g2 → Calls Try.prog 15 #[gameVal g (.slice aa an ac) (.slice a2 tn c2),.int .i64 t] X (FracC p1 q1 C1 X)) := fun X hX => by have h := hC1 X _ _ _ hX;rw [hg2] at h;exact h
     have hC2 : Hid (∀ (X : World),GameR X (.slice aa an ac) (.slice a2 tn c2) ms (noB g2) → Calls Try.prog 15 #[gameVal (noB g) (.slice aa an ac) (.slice a2 tn c2),.int .i64 t] X (FracC p2 q2 C2 X)) := fun X hX => by have h := hC2 X _ _ _ hX;rw [hg2] at h;exact h
     replace hE := hide hE
     replace hg2 := hide hg2
     clear hz hl ho hgi hlt hi
     go_upto_region 10 with (first | (refine wpList_load_row rfl 25 _ rfl _ rfl _ _ _ _ r0 Try.underlying25 rfl (by kernel_rfl) ?_) | ((with_reducible refine wpList_store_game rfl _ _ rfl wr.heap.size g (.slice aa an ac) (.slice a2 tn c2) rfl rfl ⟨_,_,_,rfl⟩ ⟨_,_,_,rfl⟩ _ (Row.new _ _ _) ?_ ?_);(rfl);intro A rA gA) | fail)
     have b0r : w.heap.size < wr.heap.size := r0.lt
     have hbA : Below wr.heap.size wr A := Below.grown (Bel.al (Below.refl _ _) _) gA (by simp) (fun k hk => by injection hk with hk;omega)
     replace r0 : GameAt A w.heap.size g (.slice aa an ac) (.slice a2 tn c2) := r0.keep hbA
     clear gA
     have x5 : A.cell? ⟨wr.heap.size,5,none⟩ = some (.int .i64 g.bonus) := rA.bonus
     have x6 : A.cell? ⟨wr.heap.size,6,none⟩ = some (.int .i64 g.bonusOf) := rA.bonusOf
     have f5 := Row.frozen rA 5
     have f6 := Row.frozen rA 6
     go_upto_region 11 with (fail)
     obtain ⟨Z,hZ⟩ : ∃ X,X = (A.setCell ⟨wr.heap.size,5,none⟩ (.int .i64 0)).setCell ⟨wr.heap.size,6,none⟩ (.int .i64 0) := ⟨_,rfl⟩
     have r6 : GameAt Z wr.heap.size (noB g) (.slice aa an ac) (.slice a2 tn c2) := by rw [hZ];exact Row.set (Row.set rA 5 _) 6 _
     replace r0 : GameAt Z w.heap.size g (.slice aa an ac) (.slice a2 tn c2) := by rw [hZ];exact Row.far (Row.far r0 (p := ⟨wr.heap.size,5,none⟩) (show w.heap.size ≠ wr.heap.size by omega) _) (p := ⟨wr.heap.size,6,none⟩) (show w.heap.size ≠ wr.heap.size by omega) _
     have br : Below wr.heap.size wr Z := by rw [hZ];exact Bel.st (Bel.st hbA (p := ⟨wr.heap.size,5,none⟩) (Nat.le_refl _) _) (p := ⟨wr.heap.size,6,none⟩) (Nat.le_refl _) _
     replace bel := Bel.to bel br
     replace hG2 := hG2.below br
     replace hG3 := hG3.below br
     rw [← hZ]
     obtain ⟨b6,hb6⟩ : ∃ b,b = wr.heap.size := ⟨_,rfl⟩
     rw [← hb6] at r6 b0r ⊢
     clear hZ br rA x5 x6 f5 f6 hbA hb6 c21
     unfold gameVal at hC1 hC2
     have cC1 := hide (hC1.out Z hG2)
     clear hC1 hG2
     go_wp2_with (first | (refine wpList_load_row rfl 25 _ rfl _ rfl _ _ _ _ r0 Try.underlying25 rfl (by kernel_rfl) ?_) | fail)
     refine cC1.out.mono ?_
     rintro e v1 ⟨u,v,rfl,hu,hv,hb⟩
     obtain ⟨ua,ul,uc,rfl⟩ := Rd.shape hu
     obtain ⟨va,vl,vc,rfl⟩ := Rd.shape hv
     replace bel := Bel.to bel hb
     replace r6 := r6.keep hb
     replace hG3 := hG3.below hb
     clear hb cC1 r0
     go_upto_region 12 with (fail)
     obtain ⟨v2,hv2⟩ : ∃ X,X = v1.alloc (.cells #[.slice ua ul uc,.slice va vl vc] 36) := ⟨_,rfl⟩
     have bv2 : Below v1.heap.size v1 v2 := by rw [hv2];exact Bel.al (Below.refl _ _) _
     have ra : Row v2 v1.heap.size 36 [.slice ua ul uc,.slice va vl vc] := by rw [hv2];exact Row.newOf _ rfl
     rw [← hv2]
     clear hv2
     replace bel := Bel.to bel bv2
     replace r6 := r6.keep bv2
     replace hG3 := hG3.below bv2
     replace hu := Rd.below hu bv2
     replace hv := Rd.below hv bv2
     obtain ⟨b7,hb7⟩ : ∃ b,b = v1.heap.size := ⟨_,rfl⟩
     rw [← hb7] at ra ⊢
     clear bv2 hb7
     have cC2 := hide (hC2.out v2 hG3)
     clear hC2
     go_wp2_with (first | (refine wpList_load_row rfl 25 _ rfl _ rfl _ _ _ _ r6 Try.underlying25 rfl (by kernel_rfl) ?_) | fail)
     refine cC2.out.mono ?_
     rintro e v3 ⟨x,y,rfl,hx,hy,hb⟩
     obtain ⟨xa,xl,xc,rfl⟩ := Rd.shape hx
     obtain ⟨ya,yl,yc,rfl⟩ := Rd.shape hy
     replace bel := Bel.to bel hb
     replace ra := Row.keep ra hb
     replace hu := Rd.below hu hb
     replace hv := Rd.below hv hb
     clear hb cC2 r6 hG3
     go_upto_region 13 with (fail)
     obtain ⟨v4,hv4⟩ : ∃ X,X = v3.alloc (.cells #[.slice xa xl xc,.slice ya yl yc] 36) := ⟨_,rfl⟩
     have bv4 : Below v3.heap.size v3 v4 := by rw [hv4];exact Bel.al (Below.refl _ _) _
     have rb : Row v4 v3.heap.size 36 [.slice xa xl xc,.slice ya yl yc] := by rw [hv4];exact Row.newOf _ rfl
     rw [← hv4]
     clear hv4
     replace bel := Bel.to bel bv4
     replace ra := Row.keep ra bv4
     replace hu := Rd.below hu bv4
     replace hv := Rd.below hv bv4
     replace hx := Rd.below hx bv4
     replace hy := Rd.below hy bv4
     obtain ⟨b9,hb9⟩ : ∃ b,b = v3.heap.size := ⟨_,rfl⟩
     rw [← hb9] at rb ⊢
     clear bv4 hb9
     by_cases h1 : C1 = 0
     rotate_left
     ·have h1b : (C1 != 0) = true := by simpa using h1
      clear h1 hE
      go_wp2_with fail
      refine (cA.out _).mono ?_
      rintro e wz ⟨rfl,hz⟩
      go_wp2
      go_ret
      exact ⟨rfl,Bel.to bel hz⟩
     by_cases h2 : C2 = 0
     rotate_left
     ·have h1b : (C1 != 0) = false := by simpa using h1
      have h2b : (C2 != 0) = true := by simpa using h2
      clear h1 h2 hE
      go_wp2_with fail
      refine (cA.out _).mono ?_
      rintro e wz ⟨rfl,hz⟩
      go_wp2
      go_ret
      exact ⟨rfl,Bel.to bel hz⟩
     have h1b : (C1 != 0) = false := by simpa using h1
     have h2b : (C2 != 0) = false := by simpa using h2
     have hEE := hE.out h1 h2
     have cS := rfsame_any _ _ _ _ p1 q1 p2 q2 v4 hu hv hx hy
     rw [decide_eq_true hEE] at cS
     replace cS := hide cS
     clear h1 h2 hE hEE hu hv hx hy
     go_wp2_with (first | (refine wpList_load_row rfl 36 _ rfl _ rfl _ _ _ _ ra Try.underlying36 rfl (by kernel_rfl) ?_) | (refine wpList_load_row rfl 36 _ rfl _ rfl _ _ _ _ rb Try.underlying36 rfl (by kernel_rfl) ?_) | fail)
     refine cS.out.mono ?_
     rintro e v5 ⟨rfl,hb⟩
     replace bel := Bel.to bel hb
     clear hb cS ra rb
     go_wp2_with fail
     refine (cA.out _).mono ?_
     rintro e wz ⟨rfl,hz⟩
     go_wp2
     go_ret
     exact ⟨rfl,Bel.to bel hz⟩
end Go.Proofs.Ytldikghldcefcaa
end
section
namespace Go.Proofs.Ytldikghldcefcaa.oddsBonus
open Go.ChangeShapes Go.WideShapes Go.ChangeAt Go.RowKit
set_option linter.unusedVariables false
theorem own : ownKnob Try.prog.godebug = none := by kernel_rfl
theorem laidOut : laidOutB Try.prog = true := by kernel_rfl
set_option maxRecDepth 100000 in
theorem lifted (os : Os) (started : os.Started) (H : Type) (enc : TypeId × Value → H) :
  ReturnsInHanded {} Try.checked os 6 .any (Rows.oddsBonusSpec.pre6 enc Try.prog Try.f6 Rows.oddsBonusRow.domain false) (Rows.oddsBonusSpec.post enc Try.prog Try.f6 false true false false) := by
 refine returnsInHanded_of_change (C := Try.checked) own started (by kernel_rfl) Try.func6
  (ChangeSpec.witness6 (enc := enc) (C := Try.checked) false ⟨#[],#[.agg #[.string ⟨#[]⟩,.int .i64 0,.int .i64 0,.int .i64 0,.int .i64 0,.int .i64 0,.int .i64 0,.int .i64 0,.int .i64 0,.int .i64 0,.int .i64 0,.int .i64 0,.int .i64 0,.int .i64 0,.int .i64 0,.int .i64 0,.int .i64 0,.int .i64 0,.int .i64 0,.int .i64 0,.slice none 0 0,.slice none 0 0],.int .i64 0],[]⟩ 8 (by kernel_rfl) (by kernel_rfl) (by kernel_rfl) (by kernel_rfl)) ?_
 intro W base args ds gs before hval0 hW hcnd _
 have hval : ∀ (j : Nat) t v,Try.f6.params[j]? = some t → args[j]? = some v → Value.okWide Try.prog W .any base t v := hval0
 have hW' := hW
 obtain ⟨p,q,hA0,hV,rfl,hfz,hnd⟩ := hW
 have hA : DataW.TrodAll enc Try.prog W 0 (fun _ => true) true Try.f6.params.toList args.toList ds p := hA0
 rw [Try.params6] at hA hval
 obtain ⟨v0,vs0,d0,ds0,p0,q0,hargs,rfl,rfl,h0,r0⟩ := trodAll_cons hA
 obtain ⟨v1,vs1,d1,ds1,p1,q1,rfl,rfl,rfl,h1,r1⟩ := trodAll_cons r0
 obtain ⟨rfl,rfl,rfl⟩ := trodAll_nil r1
 obtain rfl : args = #[v0,v1] := by cases args;simp_all
 obtain ⟨rfl,rfl⟩ := trodVars_none hV
 obtain ⟨cs0,rfl,hsz0⟩ := okWide_struct Try.underlying25 (hval 0 25 v0 rfl rfl)
 have k0 := h0
 have lt0 : ∀ x ∈ p0,x.block < W.heap.size := by obtain ⟨m,hm⟩ := k0;exact DataW.trod_lt m _ _ _ hm
 obtain ⟨g0,av0,tv0,ms0,eg0,rg0⟩ := game_trod h0
 rw [eg0] at k0 hW' ⊢
 obtain ⟨a1,rfl,rfl,rfl,w1⟩ := open_int Try.underlying3 (hval 1 3 v1 rfl rfl) h1
 have b1 := bounds_i64 w1
 clear hA0 hval0
 refine (bonus35_any g0 av0 tv0 ms0 a1 W rg0).mono fun e W' ⟨he,bel⟩ => ?_
 subst he
 exact ⟨_,rfl,_,_,_,[],_,[],hW',trodAll_mk1 (shut_bool Try.underlying4 _),(trodAll_cons_mk (Below.trod laidOut (by kernel_rfl) (of_decide_eq_true (by kernel_rfl)) k0 bel lt0) (trodAll_cons_mk (shut_int Try.underlying3 w1) trodAll_mk0)),rfl,bel.frame _,fun h => by cases h⟩
theorem over : Rows.oddsBonusRow.holds Try.pinned (OpenSpec.ofChange Rows.oddsBonusSpec) :=
 OpenClaim.holds_of_wide 6 Try.f6 rfl rfl rfl rfl rfl rfl rfl ⟨rfl,rfl,rfl,rfl,rfl⟩ rfl rfl rfl rfl rfl (by kernel_rfl) Try.func6 (by kernel_rfl)
  (of_decide_eq_true (by kernel_rfl)) (by unfold Func.isWrapper;first | (rw [if_pos (by decide +kernel)];kernel_rfl) | (rw [if_neg (by decide +kernel)];exact ⟨rfl,rfl⟩))
  (fun os started H enc _ => lifted os started H enc)
theorem proved : Rows.OddsBonusSaid := over
#print axioms proved
end Go.Proofs.Ytldikghldcefcaa.oddsBonus
end

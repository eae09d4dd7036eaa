/- OddsOrders: for every input the Go function lotterylaw35.OddsOrders returns true, and each argument reads afterwards as before. Conditions: none. -/
import Derived.Deep.AppendLies
import Derived.Laws.OwnMore
import Derived.BigQuiet
import Derived.Test.YtldikghldcefcaaRows
import Derived.WalkKit
import Derived.ProofKit
import Derived.OpenShut
import Derived.ChangeOld
import Derived.Below
import Derived.Test.YtldikghldcefcaaHI
import Derived.Test.YtldikghldcefcaaHK
section
open Go.RowKit
set_option linter.unusedVariables false
set_option linter.unusedSimpArgs false
namespace Go.Proofs.Ytldikghldcefcaa
theorem tier_one (l : List TierD) : ∀ x ∈ l,∀ u ∈ tierCells x,u.oneCell' = true := by
 intro x hx u hu
 simp [tierCells] at hu;rcases hu with rfl | rfl | rfl | rfl | rfl | rfl <;> rfl
abbrev TOwn (w : World) (base : Nat) (v : Value) (l : List TierD) : Prop := OwnS 6 tierCells (fun _ _ => True) w base 48 v l
theorem any_perm {g : GameD} {l : List TierD} (h : l.Perm g.tiers) (h1 : gameE g = 0) (h2 : gameE { g with tiers := l } = 0) : anyP { g with tiers := l } = anyP g ∧ anyQ { g with tiers := l } = anyQ g := by
 have e := winS_perm h
 unfold anyP anyQ
 rw [if_pos h1,if_pos h1,if_pos h2,if_pos h2,e.1,e.2]
 exact ⟨rfl,rfl⟩
set_option maxHeartbeats 16000000 in
set_option maxRecDepth 100000 in
theorem orders35_any (g : GameD) (av tv : Value) (ms : List AddonM) (i k : Int) (w : World) (rg : GameR w av tv ms g) (hi0 : 0 ≤ i) (hi1 : i ≤ 255) (hk0 : 0 ≤ k) (hk1 : k ≤ 255) :
  Calls Try.prog 5 #[gameVal g av tv,.int .u8 i,.int .u8 k] w (BoolB true w) := by
 have cA := hide (fun X => awake35_any X)
 have cF := hide (fun X (hX : Below w.heap.size w X) => few35_any g av tv ms X (rg.below hX))
 have cY := hide (fun X (hX : Below w.heap.size w X) => oAny_val g av tv ms X (rg.below hX))
 have cZ := hide (fun (l : List TierD) (tv2 : Value) X (hX : GameR X av tv2 ms { g with tiers := l }) => oAny_val { g with tiers := l } av tv2 ms X hX)
 have rgh := hide rg
 obtain ⟨aa,ac,rfl,hal,ham⟩ := rg.1.1.shape
 obtain ⟨ta,tc,rfl,htl,htm⟩ := rg.2.2.shape
 obtain ⟨an,han⟩ : ∃ an,an = ms.length := ⟨_,rfl⟩
 obtain ⟨tn,htn⟩ : ∃ tn,tn = g.tiers.length := ⟨_,rfl⟩
 have htb : (tn : Int) ≤ 9223372036854775807 := by unfold maxLen at htm;omega
 rw [← han,← htn] at cF cY rgh ⊢
 rw [← han] at cZ
 replace htn := hide htn
 clear rg hal ham htl htm han
 unfold gameVal at cF cY cZ ⊢
 (try simp only [] at cZ)
 go_enter Try.func5,Try.ntmps5
 go_upto_region 1 with (fail)
 obtain ⟨W,hW⟩ : ∃ W,W = (w.alloc (Obj.cells #[.string g.name,.int .i64 g.kind,.int .i64 g.price,.int .i64 g.main,.int .i64 g.of,.int .i64 g.bonus,.int .i64 g.bonusOf,.int .i64 g.extra,.int .i64 g.draws,.int .i64 g.system,.int .i64 g.days,.int .i64 g.at_,.int .i64 g.close,.int .i64 g.cancel,.int .i64 g.expiry,.int .i64 g.pool,.int .i64 g.reserve,.int .i64 g.round,.int .i64 g.cap,.int .i64 g.rolls,(.slice aa an ac),(.slice ta tn tc)] 25)) := ⟨_,rfl⟩
 have bel : Below w.heap.size w W := by rw [hW];exact Bel.al (Below.refl _ _) _
 have r0 : GameAt W w.heap.size g (.slice aa an ac) (.slice ta tn tc) := by rw [hW];exact Row.new _ _ _
 rw [← hW]
 clear hW
 have cF2 := hide (cF.out W bel)
 clear cF
 have wi : IntKind.i64.wrap i = i := by rw [IntKind.wrap_i64];omega
 have wk : IntKind.i64.wrap k = k := by rw [IntKind.wrap_i64];omega
 go_wp2_with (first | (refine wpList_load_row rfl 25 _ rfl _ rfl _ _ _ _ r0 Try.underlying25 rfl (by kernel_rfl) ?_) | fail)
 refine cF2.out.mono ?_
 rintro e w1 ⟨bb,rfl,h50,hb⟩
 replace bel := Bel.to bel hb
 replace r0 := r0.keep hb
 clear cF2 hb
 have ct := r0.tiers
 cases bb
 ·clear h50
  go_wp2_with fail
  refine (cA.out _).mono ?_
  rintro e wz ⟨rfl,hz⟩
  go_wp2
  go_ret
  exact ⟨rfl,Bel.to bel hz⟩
 have h51 := hide ((h50 rfl).2)
 clear h50
 by_cases h2 : tn < 2
 ·have h2i : (tn : Int) < 2 := by omega
  go_wp2_with fail
  refine (cA.out _).mono ?_
  rintro e wz ⟨rfl,hz⟩
  go_wp2
  go_ret
  exact ⟨rfl,Bel.to bel hz⟩
 have h2i : ¬ (tn : Int) < 2 := by omega
 have h2n : 2 ≤ tn := by omega
 have h0n : 0 < tn := by omega
 obtain ⟨a,ha⟩ : ∃ a : Nat,Int.tmod i (tn : Int) = (a : Int) := ⟨(Int.tmod i (tn : Int)).toNat,by rw [Int.tmod_eq_emod_of_nonneg hi0];have := Int.emod_nonneg i (show (tn : Int) ≠ 0 by omega);omega⟩
 obtain ⟨b,hb⟩ : ∃ b : Nat,Int.tmod k (tn : Int) = (b : Int) := ⟨(Int.tmod k (tn : Int)).toNat,by rw [Int.tmod_eq_emod_of_nonneg hk0];have := Int.emod_nonneg k (show (tn : Int) ≠ 0 by omega);omega⟩
 have han : a < tn := by have h := Int.emod_lt_of_pos i (show (0 : Int) < (tn : Int) by omega);rw [Int.tmod_eq_emod_of_nonneg hi0] at ha;omega
 have hbn : b < tn := by have h := Int.emod_lt_of_pos k (show (0 : Int) < (tn : Int) by omega);rw [Int.tmod_eq_emod_of_nonneg hk0] at hb;omega
 have hah := hide ha
 have hbh := hide hb
 clear ha hb h2
 have hgr : w.heap.size < w1.heap.size := r0.lt
 have hgrh := hide hgr
 have hT := hide (rgh.out.below bel).2.2
 go_upto_region 4 with (first | (refine wpList_load_row rfl 25 _ rfl _ rfl _ _ _ _ r0 Try.underlying25 rfl (by kernel_rfl) ?_) | ((with_reducible refine wpList_store_game rfl _ _ rfl w1.heap.size g (.slice aa an ac) (.slice ta tn tc) rfl rfl ⟨_,_,_,rfl⟩ ⟨_,_,_,rfl⟩ _ (Row.new _ _ _) ?_ ?_);(rfl);intro A rA gA) | fail)
 have hbA : Below w1.heap.size w1 A := Below.grown (Bel.al (Below.refl _ _) _) gA (by simp) (fun k hk => by injection hk with hk;omega)
 replace r0 : GameAt A w.heap.size g (.slice aa an ac) (.slice ta tn tc) := r0.keep hbA
 replace bel := Bel.to bel hbA
 obtain ⟨bh,hbh0⟩ : ∃ b,b = w1.heap.size := ⟨_,rfl⟩
 rw [← hbh0] at rA hgr ⊢
 have hbhA : bh < A.heap.size := rA.lt
 replace hT := hide (hT.out.below hbA)
 clear gA hbA hbh0 ct hgrh
 have ct := r0.tiers
 have hsA := hide hbhA
 have b0A : w.heap.size < A.heap.size := r0.lt
 simp only [Act.put]
 go_wp2_with (first | (with_reducible refine wpList_appendS _ rfl _ _ 23 rfl (sz := 6) (V := tierCells) (R := fun _ _ => True) tier_lenL A.heap.size 48 (.agg #[.int .i64 0,.int .i64 0,.int .i64 0,.int .i64 0,.int .i64 0,.int .i64 0]) 48 Try.underlying23 infoTL rfl (by decide) _ [] rfl ?_ _ g.tiers rfl ?_ ?_ ?_ ?_ ?_ ?_ ?_) | fail)
 case refine_1 => exact ⟨World.ownsRow_made A #[] 0 (Nat.le_refl _) (by decide) rfl,fun x hx => by cases hx⟩
 case refine_2 => exact hT.out.below (Bel.al (Below.refl _ _) _)
 case refine_3 => exact fun _ _ _ _ => trivial
 case refine_4 => exact tier_one g.tiers
 case refine_5 => have h8 := h51.out;have h9 := htn.out;simp;omega
 case refine_6 => have h8 := h51.out;have h9 := htn.out;simp;omega
 case refine_7 => simp
 intro v2 W2 ho2 hg2 hv2
 have hne1 : some w.heap.size ≠ some A.heap.size := fun e => by injection e with e;have := hsA.out;omega
 have hne2 : some bh ≠ some A.heap.size := fun e => by injection e with e;have := hsA.out;omega
 have f0 : GameAt W2 w.heap.size g (.slice aa an ac) (.slice ta tn tc) := Row.grown (Row.alloc r0 _) hg2 hne1
 have fA : GameAt W2 bh g (.slice aa an ac) (.slice ta tn tc) := Row.grown (Row.alloc rA _) hg2 hne2
 have bel2 : Below w.heap.size w W2 := Below.grown (Bel.al bel _) hg2 (by have := hsA.out;simp;omega) (fun j hj => by have hj : some A.heap.size = some j := hj;injection hj with hj;have := hsA.out;omega)
 have hsh := ho2.shape
 rw [← htn.out] at hsh
 obtain ⟨a2,c2,rfl⟩ := hsh
 obtain ⟨bs,hbs⟩ : ∃ b,b = A.heap.size := ⟨_,rfl⟩
 rw [← hbs] at ho2 hsA
 clear hg2 hv2 r0 rA bel hT ct hne1 hne2 hbs hbhA b0A
 have c21 : W2.cell? ⟨bh,21,none⟩ = some (.slice ta tn tc) := fA.tiers
 have f21 := Row.frozen fA 21
 go_upto_region 5 with (fail)
 obtain ⟨W3,hW3⟩ : ∃ X,X = W2.setCell ⟨bh,21,none⟩ (.slice a2 tn c2) := ⟨_,rfl⟩
 have r0 : GameAt W3 w.heap.size g (.slice aa an ac) (.slice ta tn tc) := by rw [hW3];exact Row.far f0 (p := ⟨bh,21,none⟩) (by simp only [];omega) _
 have rh : GameAt W3 bh g (.slice aa an ac) (.slice a2 tn c2) := by rw [hW3];exact Row.set fA 21 _
 have ho3 : TOwn W3 bs (.slice a2 tn c2) g.tiers := by rw [hW3];exact ⟨ownsRow_setCell_below ho2.1 (show bh < bs from hsA.out) _,fun _ _ _ _ => trivial⟩
 have bel : Below w.heap.size w W3 := by rw [hW3];exact Bel.st bel2 (p := ⟨bh,21,none⟩) (by simp only [];omega) _
 rw [← hW3]
 clear hW3 f0 fA ho2 bel2 c21 f21
 have ct := r0.tiers
 have hN1 : (tn : Int) ≠ 0 := by omega
 have hN2 : ((tn : Int) == 0) = false := by simp;omega
 have hta1 : Int.tmod i (tn : Int) = (a : Int) := hah.out
 have htb1 : Int.tmod k (tn : Int) = (b : Int) := hbh.out
 have wa : IntKind.i64.wrap (a : Int) = (a : Int) := by rw [IntKind.wrap_i64];omega
 have wb : IntKind.i64.wrap (b : Int) = (b : Int) := by rw [IntKind.wrap_i64];omega
 have wm1 : IntKind.i64.wrap (Int.tmod i (tn : Int)) = (a : Int) := by rw [hta1];exact wa
 have wm2 : IntKind.i64.wrap (Int.tmod k (tn : Int)) = (b : Int) := by rw [htb1];exact wb
 go_upto_region 5 with (fail)
 go_cut [8,9] (fun p q X => p = .int .i64 (a : Int) ∧ q = .int .i64 (b : Int) ∧ ∃ n,X = W3.drewN n)
 case first =>
  go_quiet (fail)
  go_wp2_with fail
  go_meet
  exact ⟨rfl,rfl,_,rfl⟩
 case rest =>
  obtain ⟨rfl,rfl,n5,hX⟩ := hcut
  obtain ⟨wr,hwr⟩ : ∃ X,X = W3.drewN n5 := ⟨_,rfl⟩
  rw [hX,← hwr]
  have d0 : GameAt wr w.heap.size g (.slice aa an ac) (.slice ta tn tc) := by rw [hwr];exact r0
  have dh : GameAt wr bh g (.slice aa an ac) (.slice a2 tn c2) := by rw [hwr];exact rh
  have do3 : TOwn wr bs (.slice a2 tn c2) g.tiers := by rw [hwr];exact ho3.keep (Bel.drN (Below.refl _ _) n5)
  have dbel : Below w.heap.size w wr := by rw [hwr];exact Bel.drN bel n5
  clear hX hwr r0 rh ho3 bel ct hN1 hN2 hta1 htb1 wm1 wm2
  have hown := do3.1
  rw [← htn.out] at hown
  obtain ⟨gb,cb,hv,hgb,hgl⟩ := World.ownsRow.form hown (by omega)
  injection hv with hv1 hv2 hv3
  subst hv1 hv3
  have hR1 := OwnS.rd tier_lenL do3
  have hal : a < g.tiers.length := by rw [← htn.out];exact han
  have hbl : b < g.tiers.length := by rw [← htn.out];exact hbn
  obtain ⟨pa,hpa⟩ : ∃ x,x = g.tiers[a] := ⟨_,rfl⟩
  obtain ⟨pb,hpb⟩ : ∃ x,x = g.tiers[b] := ⟨_,rfl⟩
  have hra : wr.rangeAt gb (a * 6) (tierCells pa) := by
   obtain ⟨b',o',e1,_,e3⟩ := RdS.at_ hR1 hal
   injection e1 with e1;injection e1 with e4 e5;subst e4 e5
   intro j u hu
   have := e3 a pa (by rw [hpa];exact List.getElem?_eq_getElem hal) j u hu
   rwa [Nat.zero_add] at this
  have hrb : wr.rangeAt gb (b * 6) (tierCells pb) := by
   obtain ⟨b',o',e1,_,e3⟩ := RdS.at_ hR1 hbl
   injection e1 with e1;injection e1 with e4 e5;subst e4 e5
   intro j u hu
   have := e3 b pb (by rw [hpb];exact List.getElem?_eq_getElem hbl) j u hu
   rwa [Nat.zero_add] at this
  have hta : wr.there gb (a * 6) 6 := there_own hown htn.out.symm han
  have htb6 : wr.there gb (b * 6) 6 := there_own hown htn.out.symm hbn
  have h21 : wr.cell? ⟨bh,21,none⟩ = some (.slice (some ⟨gb,0,none⟩) tn c2) := dh.tiers
  have hbgb : bh < gb := by have := hsA.out;omega
  have l' : ((g.tiers.set a pb).set b pa).Perm g.tiers := by rw [hpa,hpb];exact List.set_set_perm hal hbl
  have hR2 := hide (rds_put (rds_put hR1 hal pb hta) (by rw [List.length_set];exact hbl) pa (World.there_setCells htb6 _ _ _))
  obtain ⟨L,hL⟩ : ∃ L,L = (g.tiers.set a pb).set b pa := ⟨_,rfl⟩
  rw [← hL] at l' hR2
  have i0 : (0 : Int) ≤ (a : Int) := by omega
  have i1 : (a : Int) < (tn : Int) := by omega
  have j0 : (0 : Int) ≤ (b : Int) := by omega
  have j1 : (b : Int) < (tn : Int) := by omega
  replace l' := hide l'
  obtain ⟨Wn,hWn⟩ : ∃ X,X = (wr.setCells gb (a * 6) (tierCells pb)).setCells gb (b * 6) (tierCells pa) := ⟨_,rfl⟩
  rw [← hWn] at hR2
  have hWn2 : Hid ((wr.drew.setCells gb (a * 6) (tierCells pb)).setCells gb (b * 6) (tierCells pa) = Wn.drew) := by show _ = _;rw [hWn,setCells_drew,setCells_drew]
  have e0 : GameAt Wn w.heap.size g (.slice aa an ac) (.slice ta tn tc) := by rw [hWn];exact row_setCells (row_setCells d0 (by omega)) (by omega)
  have eh : GameAt Wn bh g (.slice aa an ac) (.slice (some ⟨gb,0,none⟩) tn c2) := by rw [hWn];exact row_setCells (row_setCells dh (by omega)) (by omega)
  have ebel : Below w.heap.size w Wn := by rw [hWn];exact below_setCells (below_setCells dbel (by omega)) (by omega)
  obtain ⟨X0,hX0⟩ : ∃ X,X = Wn.drew := ⟨_,rfl⟩
  replace hWn2 : Hid ((wr.drew.setCells gb (a * 6) (tierCells pb)).setCells gb (b * 6) (tierCells pa) = X0) := by show _ = _;rw [hX0];exact hWn2.out
  replace hX0 := hide hX0
  replace hra : wr.drew.rangeAt gb (a * 6) (tierCells pa) := range_keep (Below.drew (Below.refl _ _)) hra
  replace hrb : wr.drew.rangeAt gb (b * 6) (tierCells pb) := range_keep (Below.drew (Below.refl _ _)) hrb
  replace hta : wr.drew.there gb (a * 6) 6 := there_drew hta
  replace htb6 : wr.drew.there gb (b * 6) 6 := there_drew htb6
  clear hWn hL hpa hpb hR1 hown do3 d0 dbel hgb hgl hal hbl
  go_upto_region 6 with (fail)
  go_cut [59] (fun p X => p = .pointer (some ⟨gb,b * 6,none⟩) ∧ X = X0)
  case first =>
   refine wp_region_held_drew (S := fun X => X.cell? ⟨bh,21,none⟩ = some (.slice (some ⟨gb,0,none⟩) tn c2)) (by kernel_rfl) h21 (fun hHeld => ?_)
   refine' wpAnyH_take (i := 0) (oi := _) (v := .pointer (some ⟨bh,21,none⟩)) rfl (by kernel_rfl) (by kernel_rfl) (by kernel_rfl) (fun _ _ _ h => h) (Or.inl ⟨by first | (go_simp;done) | rfl,fun X _ => by go_simp⟩) hHeld ?_
   try simp only [List.getElem_toArray,List.getElem_cons_zero,List.getElem_cons_succ,Act.put,zsA,zsB,zsC]
   refine' wpAnyH_take (i := 1) (oi := _) (v := .slice (some ⟨gb,0,none⟩) tn c2) rfl (by kernel_rfl) (by kernel_rfl) (by kernel_rfl) (fun _ _ _ h => h) (Or.inl ⟨by first | (go_simp;done) | rfl,fun X hX => by have h0 := hX;go_simp⟩) hHeld ?_
   try simp only [List.getElem_toArray,List.getElem_cons_zero,List.getElem_cons_succ,Act.put,zsA,zsB,zsC]
   refine' wpAnyH_take (i := 2) (oi := _) (v := .int .i64 (a : Int)) rfl (by kernel_rfl) (by kernel_rfl) (by kernel_rfl) (fun _ _ _ h => h) (Or.inl ⟨by first | (go_simp;done) | rfl,fun X _ => by go_simp⟩) hHeld ?_
   try simp only [List.getElem_toArray,List.getElem_cons_zero,List.getElem_cons_succ,Act.put,zsA,zsB,zsC]
   refine' wpAnyH_take (i := 3) (oi := _) (v := .pointer (some ⟨bh,21,none⟩)) rfl (by kernel_rfl) (by kernel_rfl) (by kernel_rfl) (fun _ _ _ h => h) (Or.inl ⟨by first | (go_simp;done) | rfl,fun X _ => by go_simp⟩) hHeld ?_
   try simp only [List.getElem_toArray,List.getElem_cons_zero,List.getElem_cons_succ,Act.put,zsA,zsB,zsC]
   refine' wpAnyH_take (i := 4) (oi := _) (v := .slice (some ⟨gb,0,none⟩) tn c2) rfl (by kernel_rfl) (by kernel_rfl) (by kernel_rfl) (fun _ _ _ h => h) (Or.inl ⟨by first | (go_simp;done) | rfl,fun X hX => by have h0 := hX;go_simp⟩) hHeld ?_
   try simp only [List.getElem_toArray,List.getElem_cons_zero,List.getElem_cons_succ,Act.put,zsA,zsB,zsC]
   refine' wpAnyH_take (i := 5) (oi := _) (v := .int .i64 (b : Int)) rfl (by kernel_rfl) (by kernel_rfl) (by kernel_rfl) (fun _ _ _ h => h) (Or.inl ⟨by first | (go_simp;done) | rfl,fun X _ => by go_simp⟩) hHeld ?_
   try simp only [List.getElem_toArray,List.getElem_cons_zero,List.getElem_cons_succ,Act.put,zsA,zsB,zsC]
   refine' wpAnyH_take (i := 6) (oi := _) (v := .pointer (some ⟨bh,21,none⟩)) rfl (by kernel_rfl) (by kernel_rfl) (by kernel_rfl) (fun _ _ _ h => h) (Or.inl ⟨by first | (go_simp;done) | rfl,fun X _ => by go_simp⟩) hHeld ?_
   try simp only [List.getElem_toArray,List.getElem_cons_zero,List.getElem_cons_succ,Act.put,zsA,zsB,zsC]
   refine' wpAnyH_take (i := 7) (oi := _) (v := .slice (some ⟨gb,0,none⟩) tn c2) rfl (by kernel_rfl) (by kernel_rfl) (by kernel_rfl) (fun _ _ _ h => h) (Or.inl ⟨by first | (go_simp;done) | rfl,fun X hX => by have h0 := hX;go_simp⟩) hHeld ?_
   try simp only [List.getElem_toArray,List.getElem_cons_zero,List.getElem_cons_succ,Act.put,zsA,zsB,zsC]
   refine' wpAnyH_take (i := 8) (oi := _) (v := .int .i64 (b : Int)) rfl (by kernel_rfl) (by kernel_rfl) (by kernel_rfl) (fun _ _ _ h => h) (Or.inl ⟨by first | (go_simp;done) | rfl,fun X _ => by go_simp⟩) hHeld ?_
   try simp only [List.getElem_toArray,List.getElem_cons_zero,List.getElem_cons_succ,Act.put,zsA,zsB,zsC]
   refine' wpAnyH_take (i := 11) (oi := _) (v := .pointer (some ⟨bh,21,none⟩)) rfl (by kernel_rfl) (by kernel_rfl) (by kernel_rfl) (fun _ _ _ h => h) (Or.inl ⟨by first | (go_simp;done) | rfl,fun X _ => by go_simp⟩) hHeld ?_
   try simp only [List.getElem_toArray,List.getElem_cons_zero,List.getElem_cons_succ,Act.put,zsA,zsB,zsC]
   refine' wpAnyH_take (i := 12) (oi := _) (v := .slice (some ⟨gb,0,none⟩) tn c2) rfl (by kernel_rfl) (by kernel_rfl) (by kernel_rfl) (fun _ _ _ h => h) (Or.inl ⟨by first | (go_simp;done) | rfl,fun X hX => by have h0 := hX;go_simp⟩) hHeld ?_
   try simp only [List.getElem_toArray,List.getElem_cons_zero,List.getElem_cons_succ,Act.put,zsA,zsB,zsC]
   refine' wpAnyH_take (i := 13) (oi := _) (v := .int .i64 (a : Int)) rfl (by kernel_rfl) (by kernel_rfl) (by kernel_rfl) (fun _ _ _ h => h) (Or.inl ⟨by first | (go_simp;done) | rfl,fun X _ => by go_simp⟩) hHeld ?_
   try simp only [List.getElem_toArray,List.getElem_cons_zero,List.getElem_cons_succ,Act.put,zsA,zsB,zsC]
   refine' wpAnyH_take (i := 9) (oi := _) (v := .pointer (some ⟨gb,b * 6,none⟩)) rfl (by kernel_rfl) (by kernel_rfl) (by kernel_rfl) (fun _ _ _ h => h) (Or.inl ⟨by first | (go_simp;done) | rfl,fun X _ => by go_simp⟩) hHeld ?_
   try simp only [List.getElem_toArray,List.getElem_cons_zero,List.getElem_cons_succ,Act.put,zsA,zsB,zsC]
   refine' wpAnyH_take (i := 14) (oi := _) (v := .pointer (some ⟨gb,a * 6,none⟩)) rfl (by kernel_rfl) (by kernel_rfl) (by kernel_rfl) (fun _ _ _ h => h) (Or.inl ⟨by first | (go_simp;done) | rfl,fun X _ => by go_simp⟩) hHeld ?_
   try simp only [List.getElem_toArray,List.getElem_cons_zero,List.getElem_cons_succ,Act.put,zsA,zsB,zsC]
   obtain ⟨Y0,hY0⟩ : ∃ Y,Y = wr.drew := ⟨_,rfl⟩
   rw [← hY0] at hHeld hra hrb hta htb6 ⊢
   replace hY0 := hide hY0
   refine wpAnyH_ready (rs := [10,15]) (by kernel_rfl) (by simp) ?_
   refine AllReadyH.cons (o := _) rfl (fun K hK => ?_) (AllReadyH.cons (o := _) rfl (fun K hK => ?_) AllReadyH.nil)
   ·skip
    refine if_wanted rfl ?_
    refine wp_load_mid 48 (.tmp 51) rfl gb (b * 6) (by go_simp) [.int .i64 pb.main,.int .i64 pb.bonus,.int .i64 pb.extra,.int .i64 pb.mode,.int .i64 pb.kind,.int .i64 pb.value] _ hrb Try.underlying48 rfl (by kernel_rfl) ?_
    refine hK.out _ _ hHeld (fun hHeld => ?_)
    clear hK K
    try simp only [List.getElem_toArray,List.getElem_cons_zero,List.getElem_cons_succ,Act.put,zsA,zsB,zsC]
    refine wpAnyH_ready (rs := [15]) (by kernel_rfl) (by simp) ?_
    refine AllReadyH.cons (o := _) rfl (fun K hK => ?_) AllReadyH.nil
    refine if_wanted rfl ?_
    refine wp_load_mid 48 (.tmp 56) rfl gb (a * 6) (by go_simp) [.int .i64 pa.main,.int .i64 pa.bonus,.int .i64 pa.extra,.int .i64 pa.mode,.int .i64 pa.kind,.int .i64 pa.value] _ hra Try.underlying48 rfl (by kernel_rfl) ?_
    refine hK.out _ _ hHeld (fun hHeld => ?_)
    clear hK K
    try simp only [List.getElem_toArray,List.getElem_cons_zero,List.getElem_cons_succ,Act.put,zsA,zsB,zsC]
    refine' wpAnyH_take (i := 16) (oi := _) (v := .pointer (some ⟨gb,a * 6,none⟩)) rfl (by kernel_rfl) (by kernel_rfl) (by kernel_rfl) (fun _ _ _ h => h) (Or.inl ⟨by first | (go_simp;done) | rfl,fun X _ => by go_simp⟩) hHeld ?_
    try simp only [List.getElem_toArray,List.getElem_cons_zero,List.getElem_cons_succ,Act.put,zsA,zsB,zsC]
    refine wpAnyH_ready (rs := [17]) (by kernel_rfl) (by simp) ?_
    refine AllReadyH.cons (o := _) rfl (fun K hK => ?_) AllReadyH.nil
    refine if_wanted rfl ?_
    refine wp_store_mid 48 (.tmp 58) (.tmp 52) rfl gb (a * 6) #[.int .i64 pb.main,.int .i64 pb.bonus,.int .i64 pb.extra,.int .i64 pb.mode,.int .i64 pb.kind,.int .i64 pb.value] (by go_simp) (by go_simp) hta (by kernel_rfl) (all_oneCell_toArray (fun v hv => tier_one [pb] pb (List.mem_singleton.2 rfl) v hv)) ?_
    obtain ⟨Y1,hY1⟩ : ∃ X,X = Y0.setCells gb (a * 6) (tierCells pb) := ⟨_,rfl⟩
    have hH2 : Y1.cell? ⟨bh,21,none⟩ = some (.slice (some ⟨gb,0,none⟩) tn c2) := by rw [hY1];exact (World.cell?_setCells_out gb _ _ _ _ (fun hb => absurd hb (by simp only [];omega))).trans hHeld
    change K _ (Y0.setCells gb (a * 6) (tierCells pb))
    rw [← hY1]
    replace hY1 := hide hY1
    refine hK.out _ _ hH2 (fun hHeld => ?_)
    clear hK K hH2
    try simp only [List.getElem_toArray,List.getElem_cons_zero,List.getElem_cons_succ,Act.put,zsA,zsB,zsC]
    replace htb6 : Y1.there gb (b * 6) 6 := by rw [hY1.out];exact World.there_setCells htb6 _ _ _
    refine' wpAnyH_take (i := 18) (oi := _) (v := .pointer (some ⟨gb,b * 6,none⟩)) rfl (by kernel_rfl) (by kernel_rfl) (by kernel_rfl) (fun _ _ _ h => h) (Or.inl ⟨by first | (go_simp;done) | rfl,fun X _ => by go_simp⟩) hHeld ?_
    try simp only [List.getElem_toArray,List.getElem_cons_zero,List.getElem_cons_succ,Act.put,zsA,zsB,zsC]
    refine wpAnyH_ready (rs := [19]) (by kernel_rfl) (by simp) ?_
    refine AllReadyH.cons (o := _) rfl (fun K hK => ?_) AllReadyH.nil
    refine if_wanted rfl ?_
    refine wp_store_mid 48 (.tmp 59) (.tmp 57) rfl gb (b * 6) #[.int .i64 pa.main,.int .i64 pa.bonus,.int .i64 pa.extra,.int .i64 pa.mode,.int .i64 pa.kind,.int .i64 pa.value] (by go_simp) (by go_simp) htb6 (by kernel_rfl) (all_oneCell_toArray (fun v hv => tier_one [pa] pa (List.mem_singleton.2 rfl) v hv)) ?_
    obtain ⟨Y2,hY2⟩ : ∃ X,X = Y1.setCells gb (b * 6) (tierCells pa) := ⟨_,rfl⟩
    have hH2 : Y2.cell? ⟨bh,21,none⟩ = some (.slice (some ⟨gb,0,none⟩) tn c2) := by rw [hY2];exact (World.cell?_setCells_out gb _ _ _ _ (fun hb => absurd hb (by simp only [];omega))).trans hHeld
    change K _ (Y1.setCells gb (b * 6) (tierCells pa))
    rw [← hY2]
    replace hY2 := hide hY2
    refine hK.out _ _ hH2 (fun hHeld => ?_)
    clear hK K hH2
    try simp only [List.getElem_toArray,List.getElem_cons_zero,List.getElem_cons_succ,Act.put,zsA,zsB,zsC]
    refine wpAnyH_done (by kernel_rfl) ?_ _
    go_simp
    go_wp2_with fail
    go_meet
    exact ⟨rfl,by rw [← hWn2.out,hY2.out,hY1.out,hY0.out]⟩
   ·skip
    refine if_wanted rfl ?_
    refine wp_load_mid 48 (.tmp 56) rfl gb (a * 6) (by go_simp) [.int .i64 pa.main,.int .i64 pa.bonus,.int .i64 pa.extra,.int .i64 pa.mode,.int .i64 pa.kind,.int .i64 pa.value] _ hra Try.underlying48 rfl (by kernel_rfl) ?_
    refine hK.out _ _ hHeld (fun hHeld => ?_)
    clear hK K
    try simp only [List.getElem_toArray,List.getElem_cons_zero,List.getElem_cons_succ,Act.put,zsA,zsB,zsC]
    refine wpAnyH_ready (rs := [10]) (by kernel_rfl) (by simp) ?_
    refine AllReadyH.cons (o := _) rfl (fun K hK => ?_) AllReadyH.nil
    refine if_wanted rfl ?_
    refine wp_load_mid 48 (.tmp 51) rfl gb (b * 6) (by go_simp) [.int .i64 pb.main,.int .i64 pb.bonus,.int .i64 pb.extra,.int .i64 pb.mode,.int .i64 pb.kind,.int .i64 pb.value] _ hrb Try.underlying48 rfl (by kernel_rfl) ?_
    refine hK.out _ _ hHeld (fun hHeld => ?_)
    clear hK K
    try simp only [List.getElem_toArray,List.getElem_cons_zero,List.getElem_cons_succ,Act.put,zsA,zsB,zsC]
    refine' wpAnyH_take (i := 16) (oi := _) (v := .pointer (some ⟨gb,a * 6,none⟩)) rfl (by kernel_rfl) (by kernel_rfl) (by kernel_rfl) (fun _ _ _ h => h) (Or.inl ⟨by first | (go_simp;done) | rfl,fun X _ => by go_simp⟩) hHeld ?_
    try simp only [List.getElem_toArray,List.getElem_cons_zero,List.getElem_cons_succ,Act.put,zsA,zsB,zsC]
    refine wpAnyH_ready (rs := [17]) (by kernel_rfl) (by simp) ?_
    refine AllReadyH.cons (o := _) rfl (fun K hK => ?_) AllReadyH.nil
    refine if_wanted rfl ?_
    refine wp_store_mid 48 (.tmp 58) (.tmp 52) rfl gb (a * 6) #[.int .i64 pb.main,.int .i64 pb.bonus,.int .i64 pb.extra,.int .i64 pb.mode,.int .i64 pb.kind,.int .i64 pb.value] (by go_simp) (by go_simp) hta (by kernel_rfl) (all_oneCell_toArray (fun v hv => tier_one [pb] pb (List.mem_singleton.2 rfl) v hv)) ?_
    obtain ⟨Y1,hY1⟩ : ∃ X,X = Y0.setCells gb (a * 6) (tierCells pb) := ⟨_,rfl⟩
    have hH2 : Y1.cell? ⟨bh,21,none⟩ = some (.slice (some ⟨gb,0,none⟩) tn c2) := by rw [hY1];exact (World.cell?_setCells_out gb _ _ _ _ (fun hb => absurd hb (by simp only [];omega))).trans hHeld
    change K _ (Y0.setCells gb (a * 6) (tierCells pb))
    rw [← hY1]
    replace hY1 := hide hY1
    refine hK.out _ _ hH2 (fun hHeld => ?_)
    clear hK K hH2
    try simp only [List.getElem_toArray,List.getElem_cons_zero,List.getElem_cons_succ,Act.put,zsA,zsB,zsC]
    replace htb6 : Y1.there gb (b * 6) 6 := by rw [hY1.out];exact World.there_setCells htb6 _ _ _
    refine' wpAnyH_take (i := 18) (oi := _) (v := .pointer (some ⟨gb,b * 6,none⟩)) rfl (by kernel_rfl) (by kernel_rfl) (by kernel_rfl) (fun _ _ _ h => h) (Or.inl ⟨by first | (go_simp;done) | rfl,fun X _ => by go_simp⟩) hHeld ?_
    try simp only [List.getElem_toArray,List.getElem_cons_zero,List.getElem_cons_succ,Act.put,zsA,zsB,zsC]
    refine wpAnyH_ready (rs := [19]) (by kernel_rfl) (by simp) ?_
    refine AllReadyH.cons (o := _) rfl (fun K hK => ?_) AllReadyH.nil
    refine if_wanted rfl ?_
    refine wp_store_mid 48 (.tmp 59) (.tmp 57) rfl gb (b * 6) #[.int .i64 pa.main,.int .i64 pa.bonus,.int .i64 pa.extra,.int .i64 pa.mode,.int .i64 pa.kind,.int .i64 pa.value] (by go_simp) (by go_simp) htb6 (by kernel_rfl) (all_oneCell_toArray (fun v hv => tier_one [pa] pa (List.mem_singleton.2 rfl) v hv)) ?_
    obtain ⟨Y2,hY2⟩ : ∃ X,X = Y1.setCells gb (b * 6) (tierCells pa) := ⟨_,rfl⟩
    have hH2 : Y2.cell? ⟨bh,21,none⟩ = some (.slice (some ⟨gb,0,none⟩) tn c2) := by rw [hY2];exact (World.cell?_setCells_out gb _ _ _ _ (fun hb => absurd hb (by simp only [];omega))).trans hHeld
    change K _ (Y1.setCells gb (b * 6) (tierCells pa))
    rw [← hY2]
    replace hY2 := hide hY2
    refine hK.out _ _ hH2 (fun hHeld => ?_)
    clear hK K hH2
    try simp only [List.getElem_toArray,List.getElem_cons_zero,List.getElem_cons_succ,Act.put,zsA,zsB,zsC]
    refine wpAnyH_done (by kernel_rfl) ?_ _
    go_simp
    go_wp2_with fail
    go_meet
    exact ⟨rfl,by rw [← hWn2.out,hY2.out,hY1.out,hY0.out]⟩
  case rest =>
   obtain ⟨rfl,hX⟩ := hcut
   rw [hX]
   clear hX hWn2 hra hrb hta htb6 h21 dh
   replace hX0 := hX0.out
   replace e0 : GameAt X0 w.heap.size g (.slice aa an ac) (.slice ta tn tc) := by rw [hX0];exact e0
   replace eh : GameAt X0 bh g (.slice aa an ac) (.slice (some ⟨gb,0,none⟩) tn c2) := by rw [hX0];exact eh
   replace hR2 := hR2.out.below (Below.drew (Below.refl _ _))
   rw [← hX0] at hR2
   replace ebel : Below w.heap.size w X0 := by rw [hX0];exact Bel.to ebel (Below.drew (Below.refl _ _))
   clear hX0
   have hG2 : GameR X0 (.slice aa an ac) (.slice (some ⟨gb,0,none⟩) tn c2) ms { g with tiers := L } := ⟨(rgh.out.below ebel).1,rgh.out.2.1,hR2⟩
   obtain ⟨P1,hP1⟩ : ∃ x,x = anyP g := ⟨_,rfl⟩
   obtain ⟨Q1,hQ1⟩ : ∃ x,x = anyQ g := ⟨_,rfl⟩
   obtain ⟨C1,hC1⟩ : ∃ x,x = gameE g := ⟨_,rfl⟩
   obtain ⟨P2,hP2⟩ : ∃ x,x = anyP { g with tiers := L } := ⟨_,rfl⟩
   obtain ⟨Q2,hQ2⟩ : ∃ x,x = anyQ { g with tiers := L } := ⟨_,rfl⟩
   obtain ⟨C2,hC2⟩ : ∃ x,x = gameE { g with tiers := L } := ⟨_,rfl⟩
   have hE : Hid (C1 = 0 → C2 = 0 → P1 = P2 ∧ Q1 = Q2) := fun h1 h2 => by
    have h := any_perm l'.out (hC1.symm.trans h1) (hC2.symm.trans h2)
    rw [hP1,hQ1,hP2,hQ2]
    exact ⟨h.1.symm,h.2.symm⟩
   have cC1 := hide (cY.out X0 ebel)
   have cC2h := hide (fun X (hX : GameR X (.slice aa an ac) (.slice (some ⟨gb,0,none⟩) tn c2) ms { g with tiers := L }) => cZ.out L _ X hX)
   rw [← hP1,← hQ1,← hC1] at cC1
   rw [← hP2,← hQ2,← hC2] at cC2h
   (try simp only [] at cC2h)
   clear cY cZ hP1 hQ1 hC1 hP2 hQ2 hC2 l'
   have hG3 := hG2
   have bel := ebel
   have r6 := eh
   clear hG2 ebel eh hR2
   go_wp2_with (first | (refine wpList_load_row rfl 25 _ rfl _ rfl _ _ _ _ e0 Try.underlying25 rfl (by kernel_rfl) ?_) | fail)
   refine cC1.out.mono ?_
   rintro e v1 ⟨u,v,rfl,hu,hv,hb⟩
   obtain ⟨ua,ul,uc,rfl⟩ := Rd.shape hu
   obtain ⟨va,vl,vc,rfl⟩ := Rd.shape hv
   replace bel := Bel.to bel hb
   replace r6 := r6.keep hb
   replace hG3 := hG3.below hb
   clear hb cC1 e0
   go_upto_region 8 with (fail)
   obtain ⟨v2,hv2⟩ : ∃ X,X = v1.alloc (.cells #[.slice ua ul uc,.slice va vl vc] 36) := ⟨_,rfl⟩
   have bv2 : Below v1.heap.size v1 v2 := by rw [hv2];exact Bel.al (Below.refl _ _) _
   have ra : Row v2 v1.heap.size 36 [.slice ua ul uc,.slice va vl vc] := by rw [hv2];exact Row.newOf _ rfl
   rw [← hv2]
   clear hv2
   replace bel := Bel.to bel bv2
   replace r6 := r6.keep bv2
   replace hG3 := hG3.below bv2
   replace hu := Rd.below hu bv2
   replace hv := Rd.below hv bv2
   obtain ⟨b7,hb7⟩ : ∃ b,b = v1.heap.size := ⟨_,rfl⟩
   rw [← hb7] at ra ⊢
   clear bv2 hb7
   have cC2 := hide (cC2h.out v2 hG3)
   clear cC2h
   go_wp2_with (first | (refine wpList_load_row rfl 25 _ rfl _ rfl _ _ _ _ r6 Try.underlying25 rfl (by kernel_rfl) ?_) | fail)
   refine cC2.out.mono ?_
   rintro e v3 ⟨x,y,rfl,hx,hy,hb⟩
   obtain ⟨xa,xl,xc,rfl⟩ := Rd.shape hx
   obtain ⟨ya,yl,yc,rfl⟩ := Rd.shape hy
   replace bel := Bel.to bel hb
   replace ra := Row.keep ra hb
   replace hu := Rd.below hu hb
   replace hv := Rd.below hv hb
   clear hb cC2 r6 hG3
   go_upto_region 9 with (fail)
   obtain ⟨v4,hv4⟩ : ∃ X,X = v3.alloc (.cells #[.slice xa xl xc,.slice ya yl yc] 36) := ⟨_,rfl⟩
   have bv4 : Below v3.heap.size v3 v4 := by rw [hv4];exact Bel.al (Below.refl _ _) _
   have rb : Row v4 v3.heap.size 36 [.slice xa xl xc,.slice ya yl yc] := by rw [hv4];exact Row.newOf _ rfl
   rw [← hv4]
   clear hv4
   replace bel := Bel.to bel bv4
   replace ra := Row.keep ra bv4
   replace hu := Rd.below hu bv4
   replace hv := Rd.below hv bv4
   replace hx := Rd.below hx bv4
   replace hy := Rd.below hy bv4
   obtain ⟨b9,hb9⟩ : ∃ b,b = v3.heap.size := ⟨_,rfl⟩
   rw [← hb9] at rb ⊢
   clear bv4 hb9
   by_cases h1 : C1 = 0
   rotate_left
   ·have h1b : (C1 != 0) = true := by simpa using h1
    clear h1 hE
    go_wp2_with fail
    refine (cA.out _).mono ?_
    rintro e wz ⟨rfl,hz⟩
    go_wp2
    go_ret
    exact ⟨rfl,Bel.to bel hz⟩
   by_cases h2 : C2 = 0
   rotate_left
   ·have h1b : (C1 != 0) = false := by simpa using h1
    have h2b : (C2 != 0) = true := by simpa using h2
    clear h1 h2 hE
    go_wp2_with fail
    refine (cA.out _).mono ?_
    rintro e wz ⟨rfl,hz⟩
    go_wp2
    go_ret
    exact ⟨rfl,Bel.to bel hz⟩
   have h1b : (C1 != 0) = false := by simpa using h1
   have h2b : (C2 != 0) = false := by simpa using h2
   have hEE := hE.out h1 h2
   have cS := rfsame_any _ _ _ _ P1 Q1 P2 Q2 v4 hu hv hx hy
   rw [decide_eq_true hEE] at cS
   replace cS := hide cS
   clear h1 h2 hE hEE hu hv hx hy
   go_wp2_with (first | (refine wpList_load_row rfl 36 _ rfl _ rfl _ _ _ _ ra Try.underlying36 rfl (by kernel_rfl) ?_) | (refine wpList_load_row rfl 36 _ rfl _ rfl _ _ _ _ rb Try.underlying36 rfl (by kernel_rfl) ?_) | fail)
   refine cS.out.mono ?_
   rintro e v5 ⟨rfl,hb⟩
   replace bel := Bel.to bel hb
   clear hb cS ra rb
   go_wp2_with fail
   refine (cA.out _).mono ?_
   rintro e wz ⟨rfl,hz⟩
   go_wp2
   go_ret
   exact ⟨rfl,Bel.to bel hz⟩
end Go.Proofs.Ytldikghldcefcaa
end
section
namespace Go.Proofs.Ytldikghldcefcaa.oddsOrders
open Go.ChangeShapes Go.WideShapes Go.ChangeAt Go.RowKit
set_option linter.unusedVariables false
theorem own : ownKnob Try.prog.godebug = none := by kernel_rfl
theorem laidOut : laidOutB Try.prog = true := by kernel_rfl
set_option maxRecDepth 100000 in
theorem lifted (os : Os) (started : os.Started) (H : Type) (enc : TypeId × Value → H) :
  ReturnsInHanded {} Try.checked os 5 .any (Rows.oddsOrdersSpec.pre6 enc Try.prog Try.f5 Rows.oddsOrdersRow.domain false) (Rows.oddsOrdersSpec.post enc Try.prog Try.f5 false true false false) := by
 refine returnsInHanded_of_change (C := Try.checked) own started (by kernel_rfl) Try.func5
  (ChangeSpec.witness6 (enc := enc) (C := Try.checked) false ⟨#[],#[.agg #[.string ⟨#[]⟩,.int .i64 0,.int .i64 0,.int .i64 0,.int .i64 0,.int .i64 0,.int .i64 0,.int .i64 0,.int .i64 0,.int .i64 0,.int .i64 0,.int .i64 0,.int .i64 0,.int .i64 0,.int .i64 0,.int .i64 0,.int .i64 0,.int .i64 0,.int .i64 0,.int .i64 0,.slice none 0 0,.slice none 0 0],.int .u8 0,.int .u8 0],[]⟩ 8 (by kernel_rfl) (by kernel_rfl) (by kernel_rfl) (by kernel_rfl)) ?_
 intro W base args ds gs before hval0 hW hcnd _
 have hval : ∀ (j : Nat) t v,Try.f5.params[j]? = some t → args[j]? = some v → Value.okWide Try.prog W .any base t v := hval0
 have hW' := hW
 obtain ⟨p,q,hA0,hV,rfl,hfz,hnd⟩ := hW
 have hA : DataW.TrodAll enc Try.prog W 0 (fun _ => true) true Try.f5.params.toList args.toList ds p := hA0
 rw [Try.params5] at hA hval
 obtain ⟨v0,vs0,d0,ds0,p0,q0,hargs,rfl,rfl,h0,r0⟩ := trodAll_cons hA
 obtain ⟨v1,vs1,d1,ds1,p1,q1,rfl,rfl,rfl,h1,r1⟩ := trodAll_cons r0
 obtain ⟨v2,vs2,d2,ds2,p2,q2,rfl,rfl,rfl,h2,r2⟩ := trodAll_cons r1
 obtain ⟨rfl,rfl,rfl⟩ := trodAll_nil r2
 obtain rfl : args = #[v0,v1,v2] := by cases args;simp_all
 obtain ⟨rfl,rfl⟩ := trodVars_none hV
 obtain ⟨cs0,rfl,hsz0⟩ := okWide_struct Try.underlying25 (hval 0 25 v0 rfl rfl)
 have k0 := h0
 have lt0 : ∀ x ∈ p0,x.block < W.heap.size := by obtain ⟨m,hm⟩ := k0;exact DataW.trod_lt m _ _ _ hm
 obtain ⟨g0,av0,tv0,ms0,eg0,rg0⟩ := game_trod h0
 rw [eg0] at k0 hW' ⊢
 obtain ⟨a1,rfl,rfl,rfl,w1⟩ := open_int Try.underlying5 (hval 1 5 v1 rfl rfl) h1
 have b1 := bounds_u8 w1
 obtain ⟨a2,rfl,rfl,rfl,w2⟩ := open_int Try.underlying5 (hval 2 5 v2 rfl rfl) h2
 have b2 := bounds_u8 w2
 clear hA0 hval0
 refine (orders35_any g0 av0 tv0 ms0 a1 a2 W rg0 (by omega) (by omega) (by omega) (by omega)).mono fun e W' ⟨he,bel⟩ => ?_
 subst he
 exact ⟨_,rfl,_,_,_,[],_,[],hW',trodAll_mk1 (shut_bool Try.underlying4 _),(trodAll_cons_mk (Below.trod laidOut (by kernel_rfl) (of_decide_eq_true (by kernel_rfl)) k0 bel lt0) (trodAll_cons_mk (shut_int Try.underlying5 w1) (trodAll_cons_mk (shut_int Try.underlying5 w2) trodAll_mk0))),rfl,bel.frame _,fun h => by cases h⟩
theorem over : Rows.oddsOrdersRow.holds Try.pinned (OpenSpec.ofChange Rows.oddsOrdersSpec) :=
 OpenClaim.holds_of_wide 5 Try.f5 rfl rfl rfl rfl rfl rfl rfl ⟨rfl,rfl,rfl,rfl,rfl⟩ rfl rfl rfl rfl rfl (by kernel_rfl) Try.func5 (by kernel_rfl)
  (of_decide_eq_true (by kernel_rfl)) (by unfold Func.isWrapper;first | (rw [if_pos (by decide +kernel)];kernel_rfl) | (rw [if_neg (by decide +kernel)];exact ⟨rfl,rfl⟩))
  (fun os started H enc _ => lifted os started H enc)
theorem proved : Rows.OddsOrdersSaid := over
#print axioms proved
end Go.Proofs.Ytldikghldcefcaa.oddsOrders
end

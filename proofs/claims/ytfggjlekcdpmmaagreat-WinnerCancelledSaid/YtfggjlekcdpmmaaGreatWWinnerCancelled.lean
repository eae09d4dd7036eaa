/- WinnerCancelled: for every input the Go function lotterylaw34.WinnerCancelled returns true, and each argument reads afterwards as before. Conditions: none. -/
import Derived.Test.YtfggjlekcdpmmaaGreatRows
import Derived.WalkKit
import Derived.ProofKit
import Derived.OpenShut
import Derived.ChangeOld
import Derived.Below
import Derived.Test.YtfggjlekcdpmmaaGreatGWinC
import Derived.Test.YtfggjlekcdpmmaaGreatGTrodB
import Derived.Test.YtfggjlekcdpmmaaGreatGTrod

section
/- lotterylaw34.WinnerCancelled: the walk. No condition. -/
open Go.RowKit
set_option linter.unusedVariables false
set_option linter.unusedSimpArgs false
namespace Go.Proofs.YtfggjlekcdpmmaaGreat


set_option maxHeartbeats 16000000 in
set_option maxRecDepth 100000 in
theorem cancelled34_walk (g : GameD) (av tv : Value) (ms : List AddonM) (v : Value) (tm : List TickM) (nn : Int) (mv bv xv : Value) (r : ResD) (w : World) (rg : GameR w av tv ms g) (rt : TicketsR w v tm) (rd : ResR w mv bv xv r) (hin : InI nn) :
    Calls Tryz.prog 7 #[gameVal g av tv, v, drawVal nn mv bv xv r] w (BoolB true w) := by
  have cG := hide (fun X (hX : Below w.heap.size w X) => small25_any g av tv ms w X rg hX)
  have cF := hide (fun X (hX : Below w.heap.size w X) => few34_any v tm 8 w X rt hX (by decide))
  have cR := hide (fun X (hX : Below w.heap.size w X) => result34_any mv bv xv r w X rd hX)
  obtain ⟨aa, ac, rfl, -, -⟩ := rg.1.1.shape
  obtain ⟨ta, tc, rfl, -, -⟩ := rg.2.2.shape
  obtain ⟨ka, kc, rfl, -, -⟩ := rt.1.shape
  obtain ⟨ma, mc, rfl, -, -, -⟩ := rd.1.form
  obtain ⟨ba, bc, rfl, -, -, -⟩ := rd.2.1.form
  obtain ⟨xa, xc, rfl, -, -, -⟩ := rd.2.2.form
  obtain ⟨kn, hkn⟩ : ∃ n, n = tm.length := ⟨_, rfl⟩
  rw [← hkn] at cF ⊢
  clear rg rt rd hkn
  unfold gameVal at cG
  unfold resVal at cR
  unfold gameVal drawVal
  go_enter Tryz.func7, Tryz.ntmps7
  go_upto_region 1 with (fail)
  obtain ⟨W, hW⟩ : ∃ W, W = ((w.alloc (Obj.cells #[.string g.name, .int .i64 g.kind, .int .i64 g.price, .int .i64 g.main, .int .i64 g.of, .int .i64 g.bonus, .int .i64 g.bonusOf, .int .i64 g.extra, .int .i64 g.draws, .int .i64 g.system, .int .i64 g.days, .int .i64 g.at_, .int .i64 g.close, .int .i64 g.cancel, .int .i64 g.expiry, .int .i64 g.pool, .int .i64 g.reserve, .int .i64 g.round, .int .i64 g.cap, .int .i64 g.rolls, (.slice aa ms.length ac), (.slice ta g.tiers.length tc)] 25)).alloc (Obj.cells #[.int .i64 nn, .slice ma r.main.length mc, .slice ba r.bonus.length bc, .slice xa r.extra.length xc, .int .i64 r.factor, .string r.serial] 31)) := ⟨_, rfl⟩
  have bW : Below w.heap.size w W := by rw [hW]; exact Bel.al (Bel.al (Below.refl _ _) _) _
  have r0 : GameAt W (w.heap.size) g ((.slice aa ms.length ac)) ((.slice ta g.tiers.length tc)) := by rw [hW]; exact Row.alloc (Row.new _ _ _) _
  have r1 : Row W ((w.heap.size + 1)) 31 [.int .i64 nn, .slice ma r.main.length mc, .slice ba r.bonus.length bc, .slice xa r.extra.length xc, .int .i64 r.factor, .string r.serial] := by rw [hW]; exact Row.at2 _ _ _ _
  have sW : w.heap.size + 1 < W.heap.size := by rw [hW]; simp
  rw [← hW]
  clear hW
  go_wp2_with (first | (refine wpList_load_row rfl 25 _ rfl _ rfl _ _ _ _ r0 Tryz.underlying25 rfl (by kernel_rfl) ?_) | fail)
  refine (cG.out _ bW).mono ?_
  rintro e w1 ⟨g1, av1, tv1, ms1, rfl, K1, hgt, hb1⟩
  obtain ⟨aa1, ac1, rfl, -, -⟩ := (K1.now hb1 bW).1.1.shape
  obtain ⟨ta1, tc1, rfl, -, -⟩ := (K1.now hb1 bW).2.2.shape
  have B1 := Bel.to bW hb1
  go_wp2_with fail
  refine (cF.out _ B1).mono ?_
  rintro e w2 ⟨u2, tm1, rfl, K2, htm, hb2⟩
  obtain ⟨ka1, kc1, rfl, -, -⟩ := (K2.now hb2 B1).1.shape
  have B2 := Bel.to B1 hb2
  have q0 := Row.keep (Row.keep r0 hb1) hb2
  have q1 := Row.keep (Row.keep r1 hb1) hb2
  go_upto_region 2 with (first | ((with_reducible refine wpList_store_game rfl _ _ rfl w.heap.size g1 _ _ rfl rfl ⟨_, _, _, rfl⟩ ⟨_, _, _, rfl⟩ _ q0 ?_ ?_); (rfl); intro A rA gA) | fail)
  have bA : Below w.heap.size w A := B2.grown gA B2.size (fun q hq => by injection hq with hq; omega)
  have HG : ∀ X, Below A.heap.size A X → GameR X (.slice aa1 ms1.length ac1) (.slice ta1 g1.tiers.length tc1) ms1 g1 := fun X hX =>
    K1 X (Bel.to bA hX) (((SameR.refl W.heap.size w1).keep hb2 |>.then gA (fun q hq => by injection hq with hq; omega)).keep hX)
  have HT : ∀ X, Below A.heap.size A X → TicketsR X (.slice ka1 tm1.length kc1) tm1 := fun X hX =>
    K2 X (Bel.to bA hX) (((SameR.refl w1.heap.size w2).then gA (fun q hq => by injection hq with hq; have := hb1.size; omega)).keep hX)
  have rD := Row.grown q1 gA (by simp)
  clear K1 K2 q0 q1 r0 r1 gA hb1 hb2 B1 B2 bW cG cF
  have hrD : A.rangeAt (w.heap.size + 1) 1 [.slice ma r.main.length mc, .slice ba r.bonus.length bc, .slice xa r.extra.length xc, .int .i64 r.factor, .string r.serial] := by
    intro j u hu
    have h9 : ([.int .i64 nn, .slice ma r.main.length mc, .slice ba r.bonus.length bc, .slice xa r.extra.length xc, .int .i64 r.factor, .string r.serial] : List Value)[1 + j]? = some u := by rw [Nat.add_comm, List.getElem?_cons_succ]; exact hu
    rw [rD.cell?]
    exact h9
  go_wp2_with (first | (refine wpList_load_mid rfl 29 _ rfl (w.heap.size + 1) 1 rfl [.slice ma r.main.length mc, .slice ba r.bonus.length bc, .slice xa r.extra.length xc, .int .i64 r.factor, .string r.serial] _ hrD Tryz.underlying29 rfl (by kernel_rfl) ?_) | fail)
  refine (cR.out _ bA).mono ?_
  rintro e w3 ⟨mv1, bv1, xv1, r2, rfl, K3, hs20, hb3⟩
  have B3 := Bel.to bA hb3
  obtain ⟨ma1, mc1, rfl, -, -, -⟩ := (K3 w3 B3).1.form
  obtain ⟨ba1, bc1, rfl, -, -, -⟩ := (K3 w3 B3).2.1.form
  obtain ⟨xa1, xc1, rfl, -, -, -⟩ := (K3 w3 B3).2.2.form
  unfold resVal
  have hthere := hide (show (w3.alloc (.cells #[.slice none 0 0, .slice none 0 0, .slice none 0 0, .int .i64 0, .string ⟨#[]⟩] 29)).there w3.heap.size 0 5 from Row.there (Row.newOf (cs := [.slice none 0 0, .slice none 0 0, .slice none 0 0, .int .i64 0, .string ⟨#[]⟩]) _ rfl))
  go_upto_region 3 with (first | (refine wpList_store_mid rfl 29 _ _ rfl w3.heap.size 0 _ rfl rfl hthere.out (by kernel_rfl) (by rfl) ?_) | fail)
  obtain ⟨Z, hZ⟩ : ∃ Z, Z = w3.alloc (.cells #[.slice ma1 r2.main.length mc1, .slice ba1 r2.bonus.length bc1, .slice xa1 r2.extra.length xc1, .int .i64 r2.factor, .string r2.serial] 29) := ⟨_, rfl⟩
  have bZ : Below w3.heap.size w3 Z := by rw [hZ]; exact Bel.al (Below.refl _ _) _
  have rR : Row Z w3.heap.size 29 [.slice ma1 r2.main.length mc1, .slice ba1 r2.bonus.length bc1, .slice xa1 r2.extra.length xc1, .int .i64 r2.factor, .string r2.serial] := by rw [hZ]; exact Row.newOf _ rfl
  rw [← hZ]
  have bAZ := Bel.to hb3 bZ
  have rA := Row.keep rA bAZ
  have rD := Row.keep rD bAZ
  have BZ := Bel.to bA bAZ
  have HR : ∀ X, Below Z.heap.size Z X → ResR X (.slice ma1 r2.main.length mc1) (.slice ba1 r2.bonus.length bc1) (.slice xa1 r2.extra.length xc1) r2 := fun X hX => K3 X (Bel.to BZ hX)
  have HG2 : ∀ X, Below Z.heap.size Z X → GameR X (.slice aa1 ms1.length ac1) (.slice ta1 g1.tiers.length tc1) ms1 g1 := fun X hX => HG X (Bel.to bAZ hX)
  have HT2 : ∀ X, Below Z.heap.size Z X → TicketsR X (.slice ka1 tm1.length kc1) tm1 := fun X hX => HT X (Bel.to bAZ hX)
  obtain ⟨rb, hrb⟩ : ∃ rb, rb = w3.heap.size := ⟨_, rfl⟩
  rw [← hrb] at rR ⊢
  obtain ⟨tn1, htn1⟩ : ∃ n, n = tm1.length := ⟨_, rfl⟩
  rw [← htn1] at HT2 ⊢
  have hgE : True := trivial
  clear hZ bZ bAZ hb3 bA hthere hrD HG HT K3 hrb cR
  have xD : Z.cell? ⟨w.heap.size + 1, 0, none⟩ = some (.int .i64 nn) := (rD.cell? 0).trans rfl
  have cW := fun (ts : Value) (tl : List TickM) (X : World) (hX : Below Z.heap.size Z X) (ht : TicketsR X ts tl) (hn : tl.length ≤ 900) => wins_any g1 _ _ ts _ _ _ ms1 tl nn r2 X (HG2 X hX) ht (HR X hX) (by omega) hin hn
  have cW1 := cW _ tm1 Z (Below.refl _ _) (HT2 Z (Below.refl _ _)) (by omega)
  obtain ⟨ts, hts⟩ : ∃ ts, ts = tm1.map (·.d) := ⟨_, rfl⟩
  rw [← hts] at cW1
  replace hts := hide hts
  replace htn1 := hide htn1
  replace HR := hide HR
  replace HG2 := hide HG2
  replace HT2 := hide HT2
  unfold gameVal resVal at cW1 cW
  replace cW := hide cW
  replace cW1 := hide cW1
  go_wp2_with (first | (refine wpList_load_row rfl 25 _ rfl _ rfl _ _ _ _ rA Tryz.underlying25 rfl (by kernel_rfl) ?_) | (refine wpList_load_row rfl 29 _ rfl _ rfl _ _ _ _ rR Tryz.underlying29 rfl (by kernel_rfl) ?_) | fail)
  refine (cW1.out).mono ?_
  rintro e w4 ⟨v4, rfl, hoW, hb4⟩
  have B4 := Bel.to BZ hb4
  have rA4 := Row.keep rA hb4
  have rR4 := Row.keep rR hb4
  have rD4 := Row.keep rD hb4
  obtain ⟨P, hP⟩ : ∃ P, P = winsP g1 ts nn r2 := ⟨_, rfl⟩
  rw [← hP] at hoW ⊢
  have hPb := fun h => winsP_bad (g := g1) (ts := ts) (draw := nn) (r := r2) h
  have hPl := fun h => winsP_len (g := g1) (ts := ts) (draw := nn) (r := r2) h
  have hPt := winsP_ticket (g := g1) (ts := ts) (draw := nn) (r := r2)
  have hPg := fun h => wins_gone (g := g1) (ts := ts) (draw := nn) (r := r2) h
  rw [← hP] at hPb hPl hPt hPg
  obtain ⟨E0, c⟩ := P
  simp only [] at hoW hPb hPl hPt hPg ⊢
  have rE0 := hide (fun X (hX : Below w4.heap.size w4 X) => RdS.below (OwnWin.rd hoW) hX)
  obtain ⟨ea0, ec0, rfl⟩ := OwnS.shape hoW
  have htsl : ts.length = tn1 := by rw [hts.out, List.length_map, htn1.out]
  clear rA rR rD xD hoW hP
  by_cases hc : c = 0
  rotate_left
  · have hcb : (c != 0) = true := by simpa using hc
    replace hc := hide hc
    clear hPb hPl hPt hPg
    go_wp2_with fail
    refine (works34_any _).mono ?_
    rintro e w99 ⟨rfl, hb99⟩
    go_wp2
    go_ret
    exact ⟨rfl, Bel.to (B4) hb99⟩
  subst hc
  have hPl := hPl rfl
  have hPg := hPg rfl
  rw [htsl] at hPl
  have ht8 : tn1 ≤ 8 := by have := htn1.out; omega
  obtain ⟨m0, hm0⟩ : ∃ m, m = E0.length := ⟨_, rfl⟩
  have hm8 : Hid (m0 ≤ 8192) := by show m0 ≤ 8192; omega
  rw [← hm0] at rE0 ⊢
  have hm0h := hide hm0
  have hPgh := hide hPg
  have hPth := hide hPt
  have htm8 := hide htm
  clear hPb hPl hPg hPt htsl hm0
  have hTZ := HT2.out Z (Below.refl _ _)
  have hone : Hid (∀ x ∈ tm1, ∀ u ∈ x.cells, u.oneCell' = true) := by
    intro x hx u hu
    have h9 := (hTZ.2 x hx).1.one
    simp only [TickM.cells, List.mem_cons, List.not_mem_nil, or_false] at hu
    rcases hu with rfl | rfl | rfl | rfl | rfl | rfl | rfl | rfl | rfl | rfl | rfl | rfl | rfl | rfl <;> first | rfl | exact h9
  have hrT4 := hide (fun X (hX : Below w4.heap.size w4 X) => HT2.out X (Bel.to hb4 hX))
  go_upto_region 6 with (fail)
  go_upto_region 7 with (first | (with_reducible refine wpList_appendS _ rfl _ _ 26 rfl (sz := 14) (V := TickM.cells) (R := fun _ _ => True) tick_len w4.heap.size 52 (.agg #[.string ⟨#[]⟩, .string ⟨#[]⟩, .slice none 0 0, .bool false, .int .i64 0, .int .i64 0, .string ⟨#[]⟩, .int .i64 0, .int .i64 0, .int .i64 0, .int .i64 0, .int .i64 0, .int .i64 0, .bool false]) 152 Tryz.underlying26 infoTk rfl (by decide) _ [] rfl ?_ _ tm1 rfl ?_ ?_ ?_ ?_ ?_ ?_ ?_) | fail)
  case refine_1 => exact ⟨World.ownsRow_made w4 #[] 0 (Nat.le_refl _) (by decide) rfl, fun x hx => by cases hx⟩
  case refine_2 => exact (hrT4.out _ (Bel.al (Below.refl _ _) _)).1
  case refine_3 => intro x hx X hX; trivial
  case refine_4 => exact hone.out
  case refine_5 => have := htm8.out; simp; omega
  case refine_6 => have := htm8.out; simp; omega
  intro v5 w5 hown5 hg5 hv5
  have b45 : Below w4.heap.size w4 w5 := (Bel.al (Below.refl _ _) _).grown hg5 (by simp) (fun q hq => by simp [Value.ownBlock] at hq; omega)
  obtain ⟨a5, c5, rfl⟩ := OwnS.shape hown5
  rw [show tm1.length = tn1 from htn1.out.symm] at hown5 ⊢
  clear hg5 hv5 hone
  go_wp2
  go_loopg [11, 41] tn1 (fun gh _ t41 wr => ∃ (i : Nat) (L : List TickM), gh = tn1 - i ∧ i ≤ tn1 ∧ t41 = .int .i64 (i : Int) ∧ Hid (OwnS 14 TickM.cells (fun _ _ => True) wr w4.heap.size 52 (.slice a5 tn1 c5) L) ∧ Hid (∀ k, L[k]? = if k < i then (goneMs tm1 0)[k]? else tm1[k]?) ∧ Hid (L.length = tn1) ∧ Hid (Below w4.heap.size w4 wr))
  case atStart => exact ⟨0, tm1, rfl, Nat.zero_le _, rfl, hown5, (fun k => by rw [if_neg (by omega)]), htn1.out.symm, b45⟩
  case round =>
    clear hown5 b45
    obtain ⟨i, L, hgh, hi, rfl, hown, hLk, hLl, hB⟩ := hrel
    replace hgh := hide hgh
    by_cases hlt : i < tn1
    · have hlt2 := hide hlt
      have hil : i < L.length := by rw [hLl.out]; exact hlt
      obtain ⟨ga, rfl⟩ : ∃ ga, a5 = some (⟨ga, 0, none⟩ : Addr) := by
        rcases hown.out.1.2 with ⟨e, -⟩ | ⟨ga, cap, cur, e, -⟩
        · injection e with _ e _; omega
        · injection e with e _ _; exact ⟨ga, e⟩
      obtain ⟨m, hm⟩ : ∃ m, m = L[i] := ⟨_, rfl⟩
      have hmi : L[i]? = some m := by rw [hm]; exact List.getElem?_eq_getElem hil
      have hti : tm1[i]? = some m := by have h9 := hLk.out i; rw [if_neg (by omega), hmi] at h9; exact h9.symm
      have hgi : (goneMs tm1 0)[i]? = some (goneM i m) := by rw [goneMs_at, hti, Nat.zero_add]; rfl
      obtain ⟨b0, off0, e0, -, hcell⟩ := (OwnS.rd tick_len hown.out).at_ (i := i) hil
      injection e0 with e0
      injection e0 with e01 e02
      subst e01 e02
      have c13 : wr.cell? ⟨ga, i * 14 + 13, none⟩ = some (.bool m.d.cancelled) := by have := hcell i _ hmi 13 _ rfl; rwa [Nat.zero_add] at this
      have f13 : wr.frozen? ⟨ga, i * 14 + 13, none⟩ = false := OwnS.frozen hown.out _
      have hput := fun (x : Bool) (hx : x = (m.d.cancelled || decide (i % 2 = 0))) => OwnS.put tick_len hown.out i 13 hil (by omega) (goneM i m) (.bool x) (by rw [← hm, hx]; rfl) (fun _ _ => trivial)
      obtain ⟨L2, hL2⟩ : ∃ L2, L2 = L.set i (goneM i m) := ⟨_, rfl⟩
      rw [← hL2] at hput
      have hLl2 : Hid (L2.length = tn1) := by show L2.length = tn1; rw [hL2, List.length_set]; exact hLl.out
      have hLk2 : Hid (∀ k, L2[k]? = if k < i + 1 then (goneMs tm1 0)[k]? else tm1[k]?) := by
        intro k
        rw [hL2]
        by_cases hk : i = k
        · subst hk
          rw [List.getElem?_set_self hil, if_pos (by omega), hgi]
        · rw [List.getElem?_set_ne hk, hLk.out k]
          by_cases hk2 : k < i
          · rw [if_pos hk2, if_pos (by omega)]
          · rw [if_neg hk2, if_neg (by omega)]
      have hgaB : w4.heap.size ≤ ga := (hown.out.lt ga rfl).1
      obtain ⟨cb, hcb⟩ : ∃ cb, cb = m.d.cancelled := ⟨_, rfl⟩
      rw [← hcb] at c13 hput
      clear hcell hm hmi hti hgi hL2 hcb
      have i1 : (0 : Int) ≤ (i : Int) := by omega
      have i2 : (i : Int) < (tn1 : Int) := by omega
      have hil2 := hide hil
      clear hil
      cases cb with
      | true =>
        obtain ⟨hown2, hg2⟩ := hput true (by simp)
        have hB2 := hide (hB.out.grown hg2 hB.out.size (fun q hq => by injection hq with hq; omega))
        replace hown2 := hide hown2
        clear hput hg2 hown hLk hLl hB
        go_wp2
        go_roundg (tn1 - (i + 1))
        case measure => have := hgh.out; have := hlt2.out; omega
        case rel => exact ⟨i + 1, L2, rfl, by have := hlt2.out; omega, by go_num, hown2, hLk2, hLl2, hB2⟩
      | false =>
        have hmod : Int.tmod (i : Int) 2 = ((i % 2 : Nat) : Int) := by rw [Int.tmod_eq_emod_of_nonneg (by omega)]; omega
        by_cases h2 : i % 2 = 0
        · have hq : (Int.tmod (i : Int) 2 == 0) = true := by rw [hmod, h2]; rfl
          obtain ⟨hown2, hg2⟩ := hput true (by simp [h2])
          have hB2 := hide (hB.out.grown hg2 hB.out.size (fun q hq => by injection hq with hq; omega))
          replace hown2 := hide hown2
          rw [h2] at hmod
          have hmod0 : Int.tmod (i : Int) 2 = 0 := hmod
          replace h2 := hide h2
          clear hput hg2 hown hLk hLl hB hmod
          go_wp2
          go_roundg (tn1 - (i + 1))
          case measure => have := hgh.out; have := hlt2.out; omega
          case rel => exact ⟨i + 1, L2, rfl, by have := hlt2.out; omega, by go_num, hown2, hLk2, hLl2, hB2⟩
        · have h3 : i % 2 = 1 := by omega
          have hq : (Int.tmod (i : Int) 2 == 0) = false := by rw [hmod, h3]; rfl
          obtain ⟨hown2, hg2⟩ := hput false (by simp [h3])
          have hB2 := hide (hB.out.grown hg2 hB.out.size (fun q hq => by injection hq with hq; omega))
          replace hown2 := hide hown2
          rw [h3] at hmod
          have hmod1 : Int.tmod (i : Int) 2 = 1 := hmod
          replace h2 := hide h2
          replace h3 := hide h3
          clear hput hg2 hown hLk hLl hB hmod
          go_wp2
          go_roundg (tn1 - (i + 1))
          case measure => have := hgh.out; have := hlt2.out; omega
          case rel => exact ⟨i + 1, L2, rfl, by have := hlt2.out; omega, by go_num, hown2, hLk2, hLl2, hB2⟩
    · have hin : i = tn1 := by omega
      have hLe : L = goneMs tm1 0 := by
        refine List.ext_getElem? fun k => ?_
        rw [hLk.out k]
        by_cases hk : k < i
        · rw [if_pos hk]
        · rw [if_neg hk, List.getElem?_eq_none (by have := htn1.out; omega), List.getElem?_eq_none (by rw [goneMs_len]; have := htn1.out; omega)]
      have hTg : TicketsR wr (.slice a5 tn1 c5) L := by
        refine ⟨OwnS.rd tick_len hown.out, fun m hm => ?_⟩
        rw [hLe] at hm
        obtain ⟨k, mm, h1, rfl⟩ := goneMs_mem hm
        exact (hrT4.out wr hB.out).2 mm h1
      have cW2 := cW.out _ L wr (Bel.to hb4 hB.out) hTg (by rw [hLl.out]; omega)
      rw [hLe, goneMs_map, ← hts.out, hPgh.out] at cW2
      simp only [] at cW2
      replace cW2 := hide cW2
      have rA5 := Row.keep rA4 hB.out
      have rR5 := Row.keep rR4 hB.out
      have rD5 := Row.keep rD4 hB.out
      have xD5 : wr.cell? ⟨w.heap.size + 1, 0, none⟩ = some (.int .i64 nn) := (rD5.cell? 0).trans rfl
      have hBh := hide (Bel.to B4 hB.out)
      have hB45 := hide hB.out
      have i2 : ¬ (i : Int) < (tn1 : Int) := by omega
      replace hin := hide hin
      replace hLe := hide hLe
      clear hTg hown hLk hLl hB rA4 rR4 rD4
      go_wp2_with (first | (refine wpList_load_row rfl 25 _ rfl _ rfl _ _ _ _ rA5 Tryz.underlying25 rfl (by kernel_rfl) ?_) | (refine wpList_load_row rfl 29 _ rfl _ rfl _ _ _ _ rR5 Tryz.underlying29 rfl (by kernel_rfl) ?_) | fail)
      refine cW2.out.mono ?_
      rintro e w6 ⟨v6, rfl, hoW6, hb6⟩
      have rE6 := hide (fun X (hX : Below w6.heap.size w6 X) => RdS.below (OwnWin.rd hoW6) hX)
      obtain ⟨a6, c6, rfl⟩ := OwnS.shape hoW6
      obtain ⟨F6, hF6⟩ : ∃ F, F = E0.filter oddW := ⟨_, rfl⟩
      rw [← hF6] at rE6 ⊢
      have b46 := hide (hB45.out.trans (hb6.mono hB45.out.size))
      have B6 := hide (Bel.to hBh.out hb6)
      replace hF6 := hide hF6
      clear hoW6 hb6 cW2 rA5 rR5 rD5 xD5 hBh hB45
      go_wp2
      go_loopg [14, 16, 70] m0 (fun gh v14 _ t70 wr => ∃ (j : Nat) (E : List WinD) (ea : Option Addr) (ec : Nat), gh = m0 - j ∧ j ≤ m0 ∧ t70 = .int .i64 (j : Int) ∧ v14 = .slice ea E.length ec ∧ Hid (E = (E0.take j).filter oddW) ∧ Hid (OwnWin wr w6.heap.size (.slice ea E.length ec) E) ∧ Hid (Below w6.heap.size w6 wr))
      case atStart => exact ⟨0, [], none, 0, rfl, Nat.zero_le _, rfl, rfl, rfl, OwnS.nil _ _ _, Below.refl _ _⟩
      case round =>
        obtain ⟨j, E, ea, ec, hgh2, hj, rfl, rfl, hE, hownE, hB⟩ := hrel
        replace hgh2 := hide hgh2
        have B9 := Bel.to B6.out hB.out
        have b49 : Below w4.heap.size w4 wr := b46.out.trans (hB.out.mono b46.out.size)
        by_cases hjl : j < m0
        · have hjl2 := hide hjl
          have hjE : j < E0.length := by rw [← hm0h.out]; exact hjl
          obtain ⟨b, off, rfl, hbb, hcell⟩ := (rE0.out wr b49).at_ hjE
          obtain ⟨x, hx⟩ : ∃ x, x = E0[j] := ⟨_, rfl⟩
          have hxi : E0[j]? = some x := by rw [hx]; exact List.getElem?_eq_getElem hjE
          have hrange : wr.rangeAt b (off + j * 3) (winCells x) := fun k u hu => hcell j x hxi k u hu
          have hsn : (E0.take (j + 1)).filter oddW = E ++ (if oddW x then [x] else []) := by
            rw [List.take_succ_eq_append_getElem hjE, ← hx, List.filter_append, ← hE.out]
            cases hq : oddW x <;> simp [hq]
          have hx0 := hPth.out x (by rw [hx]; exact List.getElem_mem hjE)
          have hEl : Hid (E.length ≤ 8192) := by
            show E.length ≤ 8192
            rw [hE.out]
            refine Nat.le_trans (List.length_filter_le _ _) ?_
            rw [List.length_take]
            have := hm8.out
            omega
          clear hcell hx hxi
          obtain ⟨x1, x2, x3⟩ := x
          have hthere := hide (show (wr.alloc (.cells #[.int .i64 0, .int .i64 0, .int .i64 0] 46)).there wr.heap.size 0 3 from Row.there (Row.newOf (cs := [.int .i64 0, .int .i64 0, .int .i64 0]) _ rfl))
          have j1 : (0 : Int) ≤ (j : Int) := by omega
          have j2 : (j : Int) < (m0 : Int) := by omega
          have j3 : (m0 : Int) ≤ 8192 := by have : m0 ≤ 8192 := hm8.out; omega
          unfold winCells at hrange
          simp only [] at hrange hx0
          replace hsn := hide hsn
          go_upto_region 17 with (first | (refine wpList_load_mid rfl 46 _ rfl b (off + j * 3) rfl [.int .i64 x1, .int .i64 x2, .int .i64 x3] _ hrange Tryz.underlying46 rfl (by kernel_rfl) ?_) | (refine wpList_store_mid rfl 46 _ _ rfl wr.heap.size 0 _ rfl rfl hthere.out (by kernel_rfl) (by rfl) ?_) | fail)
          obtain ⟨X1, hX1⟩ : ∃ X1, X1 = wr.alloc (.cells #[.int .i64 x1, .int .i64 x2, .int .i64 x3] 46) := ⟨_, rfl⟩
          have b1 : Below wr.heap.size wr X1 := by rw [hX1]; exact Bel.al (Below.refl _ _) _
          have p1 : Row X1 wr.heap.size 46 [.int .i64 x1, .int .i64 x2, .int .i64 x3] := by rw [hX1]; exact Row.newOf _ rfl
          rw [← hX1]
          clear hX1 hthere hrange
          have y0 : X1.cell? ⟨wr.heap.size, 0, none⟩ = some (.int .i64 x1) := (p1.cell? 0).trans rfl
          have hBX := hide (Bel.to hB.out b1)
          have hownX := hide (OwnS.keep hownE.out b1)
          obtain ⟨q, rfl⟩ := Int.eq_ofNat_of_zero_le hx0
          have hmod : Int.tmod (q : Int) 2 = ((q % 2 : Nat) : Int) := by rw [Int.tmod_eq_emod_of_nonneg (by omega)]; omega
          clear b1 hB hownE hx0 b49
          by_cases h2 : q % 2 = 1
          · have hq : (Int.tmod (q : Int) 2 == 1) = true := by rw [hmod, h2]; rfl
            have ho : oddW ⟨(q : Int), x2, x3⟩ = true := decide_eq_true (by show (q : Int) % 2 = 1; omega)
            have hsn2 := hsn.out
            rw [ho, if_pos rfl] at hsn2
            rw [h2] at hmod
            have hmod1 : Int.tmod (q : Int) 2 = 1 := hmod
            replace hsn2 := hide hsn2
            replace h2 := hide h2
            replace ho := hide ho
            have hltE := hide (OwnS.lt hownX.out)
            clear hsn hmod B9
            go_wp2_with (first | (refine wpList_load_row rfl 46 _ rfl _ rfl _ _ _ _ p1 Tryz.underlying46 rfl (by kernel_rfl) ?_) | (with_reducible refine wpList_appendS _ rfl _ _ 34 rfl (sz := 3) (V := winCells) (R := fun _ _ => True) win_len w6.heap.size 46 (.agg #[.int .i64 0, .int .i64 0, .int .i64 0]) 24 Tryz.underlying34 infoWin rfl (by decide) _ E rfl ?_ _ [⟨(q : Int), x2, x3⟩] rfl ?_ ?_ ?_ ?_ ?_ ?_ ?_) | fail)
            case refine_1 => exact OwnS.keep hownX.out (Bel.al (Below.refl _ _) _)
            case refine_2 => exact rdS_one (V := winCells) (x := (⟨(q : Int), x2, x3⟩ : WinD)) _ (Row.newOf _ rfl) (Nat.le_refl 1) (by unfold maxLen; omega)
            case refine_3 => intro y hy X hX; trivial
            case refine_4 => intro y hy; exact winOne y
            case refine_5 => have := hEl.out; simp; omega
            case refine_6 => have := hEl.out; simp; omega
            case refine_7 => have := hBX.out.size; simp; omega
            intro v7 w7 hown7 hg7 hv7
            have hB7 : Hid (Below w6.heap.size w6 w7) := (Bel.al hBX.out _).grown hg7 (Bel.al hBX.out _).size (fun q hq => (hltE.out q hq).1)
            obtain ⟨a7, c7, rfl⟩ := OwnS.shape hown7
            obtain ⟨E2, hE2⟩ : ∃ E2, E2 = E ++ [(⟨(q : Int), x2, x3⟩ : WinD)] := ⟨_, rfl⟩
            rw [← hE2] at hown7 hsn2 ⊢
            have hsn3 : Hid (E2 = (E0.take (j + 1)).filter oddW) := hsn2.out.symm
            replace hown7 := hide hown7
            clear hg7 hv7 hsn2 hE2 p1 y0
            go_wp2
            go_roundg (m0 - (j + 1))
            case measure => have := hgh2.out; have := hjl2.out; omega
            case rel => exact ⟨j + 1, E2, a7, c7, rfl, by have := hjl2.out; omega, by go_num, rfl, hsn3, hown7, hB7⟩
          · have h3 : q % 2 = 0 := by omega
            have hq : (Int.tmod (q : Int) 2 == 1) = false := by rw [hmod, h3]; rfl
            have ho : oddW ⟨(q : Int), x2, x3⟩ = false := decide_eq_false (by show ¬ (q : Int) % 2 = 1; omega)
            have hsn2 := hsn.out
            rw [ho, if_neg (by simp), List.append_nil] at hsn2
            rw [h3] at hmod
            have hmod1 : Int.tmod (q : Int) 2 = 0 := hmod
            have hsn3 : Hid (E = (E0.take (j + 1)).filter oddW) := hsn2.symm
            replace h2 := hide h2
            replace h3 := hide h3
            replace ho := hide ho
            clear hsn hsn2 hmod B9 p1
            go_wp2
            go_roundg (m0 - (j + 1))
            case measure => have := hgh2.out; have := hjl2.out; omega
            case rel => exact ⟨j + 1, E, ea, ec, rfl, by have := hjl2.out; omega, by go_num, rfl, hsn3, hownX, hBX⟩
        · have hjm : j = E0.length := by have := hm0h.out; omega
          have hE2 := hE.out
          rw [hjm, List.take_length] at hE2
          have cS := samewins_any _ _ _ _ wr (rE6.out wr hB.out) (OwnWin.rd hownE.out)
          rw [show decide (F6 = E) = true from decide_eq_true (by rw [hF6.out, hE2])] at cS
          replace cS := hide cS
          replace hjm := hide hjm
          replace hE2 := hide hE2
          have j2 : ¬ (j : Int) < (m0 : Int) := by omega
          clear hownE hB b49 hE
          go_wp2_with fail
          refine cS.out.mono ?_
          rintro e w98 ⟨rfl, hb98⟩
          go_wp2_with fail
          refine (works34_any _).mono ?_
          rintro e w99 ⟨rfl, hb99⟩
          go_wp2
          go_ret
          exact ⟨rfl, Bel.to (Bel.to B9 hb98) hb99⟩
end Go.Proofs.YtfggjlekcdpmmaaGreat
end

section
/- WinnerCancelled: for every input the Go function lotterylaw34.WinnerCancelled returns true, and each argument reads afterwards as before. Conditions: none. -/
namespace Go.Proofs.YtfggjlekcdpmmaaGreat.winnerCancelled
open Go.ChangeShapes Go.WideShapes Go.ChangeAt Go.RowKit
set_option linter.unusedVariables false

theorem own : ownKnob Tryz.prog.godebug = none := by kernel_rfl
theorem laidOut : laidOutB Tryz.prog = true := by kernel_rfl

set_option maxRecDepth 100000 in
theorem lifted (os : Os) (started : os.Started) (H : Type) (enc : TypeId × Value → H) :
    ReturnsInHanded {} Tryz.checked os 7 .any (Rows.winnerCancelledSpec.pre6 enc Tryz.prog Tryz.f7 Rows.winnerCancelledRow.domain false) (Rows.winnerCancelledSpec.post enc Tryz.prog Tryz.f7 false true false false) := by
  refine returnsInHanded_of_change (C := Tryz.checked) own started (by kernel_rfl) Tryz.func7
    (ChangeSpec.witness6 (enc := enc) (C := Tryz.checked) false ⟨#[], #[.agg #[.string ⟨#[]⟩, .int .i64 0, .int .i64 0, .int .i64 0, .int .i64 0, .int .i64 0, .int .i64 0, .int .i64 0, .int .i64 0, .int .i64 0, .int .i64 0, .int .i64 0, .int .i64 0, .int .i64 0, .int .i64 0, .int .i64 0, .int .i64 0, .int .i64 0, .int .i64 0, .int .i64 0, .slice none 0 0, .slice none 0 0], .slice none 0 0, .agg #[.int .i64 0, .slice none 0 0, .slice none 0 0, .slice none 0 0, .int .i64 0, .string ⟨#[]⟩]], []⟩ 8 (by kernel_rfl) (by kernel_rfl) (by kernel_rfl) (by kernel_rfl)) ?_
  intro W base args ds gs before hval0 hW hcnd _
  have hval : ∀ (j : Nat) t v, Tryz.f7.params[j]? = some t → args[j]? = some v → Value.okWide Tryz.prog W .any base t v := hval0
  have hW' := hW
  obtain ⟨p, q, hA0, hV, rfl, hfz, hnd⟩ := hW
  have hA : DataW.TrodAll enc Tryz.prog W 0 (fun _ => true) true Tryz.f7.params.toList args.toList ds p := hA0
  rw [Tryz.params7] at hA hval
  obtain ⟨v0, vs0, d0, ds0, p0, q0, hargs, rfl, rfl, h0, r0⟩ := trodAll_cons hA
  obtain ⟨v1, vs1, d1, ds1, p1, q1, rfl, rfl, rfl, h1, r1⟩ := trodAll_cons r0
  obtain ⟨v2, vs2, d2, ds2, p2, q2, rfl, rfl, rfl, h2, r2⟩ := trodAll_cons r1
  obtain ⟨rfl, rfl, rfl⟩ := trodAll_nil r2
  obtain rfl : args = #[v0, v1, v2] := by cases args; simp_all
  obtain ⟨rfl, rfl⟩ := trodVars_none hV
  obtain ⟨cs0, rfl, hsz0⟩ := okWide_struct Tryz.underlying25 (hval 0 25 v0 rfl rfl)
  have k0 := h0
  have lt0 : ∀ x ∈ p0, x.block < W.heap.size := by obtain ⟨m, hm⟩ := k0; exact DataW.trod_lt m _ _ _ hm
  obtain ⟨g0, av0, tv0, ms0, eg0, rg0⟩ := game_trod h0
  rw [eg0] at k0 hW' ⊢
  obtain ⟨a1, len1, cap1, rfl⟩ := okWide_slice Tryz.underlying26 (hval 1 26 v1 rfl rfl)
  have k1 := h1
  have lt1 : ∀ x ∈ p1, x.block < W.heap.size := by obtain ⟨m, hm⟩ := k1; exact DataW.trod_lt m _ _ _ hm
  obtain ⟨ms1, rg1⟩ := tickets_open h1
  obtain ⟨cs2, rfl, hsz2⟩ := okWide_struct Tryz.underlying31 (hval 2 31 v2 rfl rfl)
  have k2 := h2
  have lt2 : ∀ x ∈ p2, x.block < W.heap.size := by obtain ⟨m, hm⟩ := k2; exact DataW.trod_lt m _ _ _ hm
  obtain ⟨nn2, dm2, db2, dx2, dr2, eg2, rg2, in2⟩ := draw_open h2
  rw [eg2] at k2 hW' ⊢
  clear hA0 hval0
  refine (cancelled34_walk g0 av0 tv0 ms0 _ ms1 nn2 dm2 db2 dx2 dr2 W rg0 rg1 rg2 in2).mono fun e W' ⟨he, bel⟩ => ?_
  subst he
  exact ⟨_, rfl, _, _, _, [], _, [], hW', trodAll_mk1 (shut_bool Tryz.underlying4 _), (trodAll_cons_mk (Below.trod laidOut (by kernel_rfl) (of_decide_eq_true (by kernel_rfl)) k0 bel lt0) (trodAll_cons_mk (Below.trod laidOut (by kernel_rfl) (of_decide_eq_true (by kernel_rfl)) k1 bel lt1) (trodAll_cons_mk (Below.trod laidOut (by kernel_rfl) (of_decide_eq_true (by kernel_rfl)) k2 bel lt2) trodAll_mk0))), rfl, bel.frame _, fun h => by cases h⟩

theorem over : Rows.winnerCancelledRow.holds Tryz.pinned (OpenSpec.ofChange Rows.winnerCancelledSpec) :=
  OpenClaim.holds_of_wide 7 Tryz.f7 rfl rfl rfl rfl rfl rfl rfl ⟨rfl, rfl, rfl, rfl, rfl⟩ rfl rfl rfl rfl rfl (by kernel_rfl) Tryz.func7 (by kernel_rfl)
    (of_decide_eq_true (by kernel_rfl)) (by unfold Func.isWrapper; first | (rw [if_pos (by decide +kernel)]; kernel_rfl) | (rw [if_neg (by decide +kernel)]; exact ⟨rfl, rfl⟩))
    (fun os started H enc _ => lifted os started H enc)

theorem proved : Rows.WinnerCancelledSaid := over
#print axioms proved
end Go.Proofs.YtfggjlekcdpmmaaGreat.winnerCancelled
end

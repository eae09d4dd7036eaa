/- WinnerMatches: for every input the Go function lotterylaw34.WinnerMatches returns true, and each argument reads afterwards as before. Conditions: none. -/
import Derived.Test.YtfggjlekcdpmmaaGreatRows
import Derived.WalkKit
import Derived.ProofKit
import Derived.OpenShut
import Derived.ChangeOld
import Derived.Below
import Derived.Test.YtfggjlekcdpmmaaGreatGWinB
import Derived.Test.YtfggjlekcdpmmaaGreatGWinC
import Derived.Test.YtfggjlekcdpmmaaGreatGTrodB
import Derived.Test.YtfggjlekcdpmmaaGreatGTrod

section
/- Plain: the wins so far are the beginning of all wins. -/
set_option linter.unusedVariables false
set_option linter.unusedSimpArgs false
namespace Go.Proofs.YtfggjlekcdpmmaaGreat

theorem winsL_app (f : LineD → Int) (i : Int) (a b : List LineD) (k : Nat) : winsL f i (a ++ b) k = winsL f i a k ++ winsL f i b (k + a.length) := by
  induction a generalizing k with
  | nil => simp [winsL]
  | cons x r ih =>
    rw [List.cons_append, winsL, winsL, ih, show k + 1 + r.length = k + (x :: r).length by rw [List.length_cons]; omega]
    split
    · rfl
    · rfl
theorem winsF_cons (g : GameD) (r : ResD) (p : Nat × TicketD) (l : List (Nat × TicketD)) : winsF g r (p :: l) = winsL (fun x => tierM g x r) p.1 (linesB g p.2.bet) 0 ++ winsF g r l := rfl
/-- The wins of the first k tickets and the first j lines of the next one. -/
def winsPre (g : GameD) (r : ResD) (el : List (Nat × TicketD)) (k : Nat) (q : Int) (T : List LineD) (j : Nat) : List WinD := winsF g r (el.take k) ++ winsL (fun x => tierM g x r) q (T.take j) 0
theorem winsPre_split {g : GameD} {r : ResD} {el : List (Nat × TicketD)} {k : Nat} (hk : k < el.length) {q : Int} {T : List LineD} (hq : q = (el[k].1 : Int)) (hT : T = linesB g el[k].2.bet) (j : Nat) :
    ∃ R, winsF g r el = winsPre g r el k q T j ++ R := by
  have h1 : winsF g r el = winsF g r (el.take k) ++ winsF g r (el.drop k) := by rw [← winsF_app, List.take_append_drop]
  rw [h1, List.drop_eq_getElem_cons hk, winsF_cons, ← hT, ← hq]
  unfold winsPre
  have h2 : winsL (fun x => tierM g x r) q T 0 = winsL (fun x => tierM g x r) q (T.take j) 0 ++ winsL (fun x => tierM g x r) q (T.drop j) (0 + (T.take j).length) := by rw [← winsL_app, List.take_append_drop]
  rw [h2]
  exact ⟨_, by rw [List.append_assoc, List.append_assoc]⟩
theorem winsPre_next {g : GameD} {r : ResD} {el : List (Nat × TicketD)} {k : Nat} {q : Int} {T : List LineD} {j : Nat} (hj : j < T.length) :
    winsPre g r el k q T (j + 1) = winsPre g r el k q T j ++ (if tierM g T[j] r = -1 then [] else [⟨q, (j : Int), tierM g T[j] r⟩]) := by
  unfold winsPre
  rw [winsL_snoc _ _ _ _ _ hj, List.append_assoc, Nat.zero_add]
theorem winsPre_at {g : GameD} {r : ResD} {el : List (Nat × TicketD)} {k : Nat} (hk : k < el.length) {q : Int} {T : List LineD} (hq : q = (el[k].1 : Int)) (hT : T = linesB g el[k].2.bet) {j : Nat} (hj : j < T.length) (ht : tierM g T[j] r ≠ -1) :
    (winsF g r el)[(winsPre g r el k q T j).length]? = some ⟨q, (j : Int), tierM g T[j] r⟩ ∧ (winsPre g r el k q T (j + 1)).length = (winsPre g r el k q T j).length + 1 := by
  obtain ⟨R, hR⟩ := winsPre_split (r := r) hk hq hT (j + 1)
  rw [winsPre_next hj, if_neg ht] at hR ⊢
  refine ⟨?_, by simp⟩
  rw [hR, List.append_assoc, List.getElem?_append_right (Nat.le_refl _), Nat.sub_self]
  rfl
theorem winsPre_skip {g : GameD} {r : ResD} {el : List (Nat × TicketD)} {k : Nat} {q : Int} {T : List LineD} {j : Nat} (hj : j < T.length) (ht : tierM g T[j] r = -1) :
    (winsPre g r el k q T (j + 1)).length = (winsPre g r el k q T j).length := by
  rw [winsPre_next hj, if_pos ht, List.append_nil]
theorem winsPre_zero (g : GameD) (r : ResD) (el : List (Nat × TicketD)) (k : Nat) (q : Int) (T : List LineD) : (winsPre g r el k q T 0).length = (winsF g r (el.take k)).length := by
  unfold winsPre
  rw [List.take_zero]
  simp [winsL]
theorem winsPre_end {g : GameD} {r : ResD} {el : List (Nat × TicketD)} {k : Nat} (hk : k < el.length) {q : Int} {T : List LineD} (hq : q = (el[k].1 : Int)) (hT : T = linesB g el[k].2.bet) :
    winsPre g r el k q T T.length = winsF g r (el.take (k + 1)) := by
  unfold winsPre
  rw [List.take_length, winsF_snoc g r el k hk, hT, hq]
theorem eligT_live {ts : List TicketD} {game : ByteArray} {draw : Int} {k : Nat} (h : k < (eligT ts game draw).length) : (eligT ts game draw)[k].2.cancelled = false := by
  have h1 := eligGo_mem (List.getElem_mem h)
  obtain ⟨-, -, -, h2⟩ := h1
  unfold eligB at h2
  simp only [Bool.and_eq_true, Bool.not_eq_true'] at h2
  exact h2.1.2
end Go.Proofs.YtfggjlekcdpmmaaGreat
end

section
/- lotterylaw34.WinnerMatches: the walk. No condition. -/
open Go.RowKit
set_option linter.unusedVariables false
set_option linter.unusedSimpArgs false
namespace Go.Proofs.YtfggjlekcdpmmaaGreat


set_option maxHeartbeats 16000000 in
set_option maxRecDepth 100000 in
theorem matches34_walk (g : GameD) (av tv : Value) (ms : List AddonM) (v : Value) (tm : List TickM) (nn : Int) (mv bv xv : Value) (r : ResD) (w : World) (rg : GameR w av tv ms g) (rt : TicketsR w v tm) (rd : ResR w mv bv xv r) (hin : InI nn) :
    Calls Tryz.prog 6 #[gameVal g av tv, v, drawVal nn mv bv xv r] w (BoolB true w) := by
  have cG := hide (fun X (hX : Below w.heap.size w X) => small25_any g av tv ms w X rg hX)
  have cF := hide (fun X (hX : Below w.heap.size w X) => few34_any v tm 6 w X rt hX (by decide))
  have cR := hide (fun X (hX : Below w.heap.size w X) => result34_any mv bv xv r w X rd hX)
  obtain ⟨aa, ac, rfl, -, -⟩ := rg.1.1.shape
  obtain ⟨ta, tc, rfl, -, -⟩ := rg.2.2.shape
  obtain ⟨ka, kc, rfl, -, -⟩ := rt.1.shape
  obtain ⟨ma, mc, rfl, -, -, -⟩ := rd.1.form
  obtain ⟨ba, bc, rfl, -, -, -⟩ := rd.2.1.form
  obtain ⟨xa, xc, rfl, -, -, -⟩ := rd.2.2.form
  obtain ⟨kn, hkn⟩ : ∃ n, n = tm.length := ⟨_, rfl⟩
  rw [← hkn] at cF ⊢
  clear rg rt rd hkn
  unfold gameVal at cG
  unfold resVal at cR
  unfold gameVal drawVal
  go_enter Tryz.func6, Tryz.ntmps6
  go_upto_region 1 with (fail)
  obtain ⟨W, hW⟩ : ∃ W, W = ((w.alloc (Obj.cells #[.string g.name, .int .i64 g.kind, .int .i64 g.price, .int .i64 g.main, .int .i64 g.of, .int .i64 g.bonus, .int .i64 g.bonusOf, .int .i64 g.extra, .int .i64 g.draws, .int .i64 g.system, .int .i64 g.days, .int .i64 g.at_, .int .i64 g.close, .int .i64 g.cancel, .int .i64 g.expiry, .int .i64 g.pool, .int .i64 g.reserve, .int .i64 g.round, .int .i64 g.cap, .int .i64 g.rolls, (.slice aa ms.length ac), (.slice ta g.tiers.length tc)] 25)).alloc (Obj.cells #[.int .i64 nn, .slice ma r.main.length mc, .slice ba r.bonus.length bc, .slice xa r.extra.length xc, .int .i64 r.factor, .string r.serial] 31)) := ⟨_, rfl⟩
  have bW : Below w.heap.size w W := by rw [hW]; exact Bel.al (Bel.al (Below.refl _ _) _) _
  have r0 : GameAt W (w.heap.size) g ((.slice aa ms.length ac)) ((.slice ta g.tiers.length tc)) := by rw [hW]; exact Row.alloc (Row.new _ _ _) _
  have r1 : Row W ((w.heap.size + 1)) 31 [.int .i64 nn, .slice ma r.main.length mc, .slice ba r.bonus.length bc, .slice xa r.extra.length xc, .int .i64 r.factor, .string r.serial] := by rw [hW]; exact Row.at2 _ _ _ _
  have sW : w.heap.size + 1 < W.heap.size := by rw [hW]; simp
  rw [← hW]
  clear hW
  go_wp2_with (first | (refine wpList_load_row rfl 25 _ rfl _ rfl _ _ _ _ r0 Tryz.underlying25 rfl (by kernel_rfl) ?_) | fail)
  refine (cG.out _ bW).mono ?_
  rintro e w1 ⟨g1, av1, tv1, ms1, rfl, K1, hgt, hb1⟩
  obtain ⟨aa1, ac1, rfl, -, -⟩ := (K1.now hb1 bW).1.1.shape
  obtain ⟨ta1, tc1, rfl, -, -⟩ := (K1.now hb1 bW).2.2.shape
  have B1 := Bel.to bW hb1
  go_wp2_with fail
  refine (cF.out _ B1).mono ?_
  rintro e w2 ⟨u2, tm1, rfl, K2, htm, hb2⟩
  obtain ⟨ka1, kc1, rfl, -, -⟩ := (K2.now hb2 B1).1.shape
  have B2 := Bel.to B1 hb2
  have q0 := Row.keep (Row.keep r0 hb1) hb2
  have q1 := Row.keep (Row.keep r1 hb1) hb2
  go_upto_region 2 with (first | ((with_reducible refine wpList_store_game rfl _ _ rfl w.heap.size g1 _ _ rfl rfl ⟨_, _, _, rfl⟩ ⟨_, _, _, rfl⟩ _ q0 ?_ ?_); (rfl); intro A rA gA) | fail)
  have bA : Below w.heap.size w A := B2.grown gA B2.size (fun q hq => by injection hq with hq; omega)
  have HG : ∀ X, Below A.heap.size A X → GameR X (.slice aa1 ms1.length ac1) (.slice ta1 g1.tiers.length tc1) ms1 g1 := fun X hX =>
    K1 X (Bel.to bA hX) (((SameR.refl W.heap.size w1).keep hb2 |>.then gA (fun q hq => by injection hq with hq; omega)).keep hX)
  have HT : ∀ X, Below A.heap.size A X → TicketsR X (.slice ka1 tm1.length kc1) tm1 := fun X hX =>
    K2 X (Bel.to bA hX) (((SameR.refl w1.heap.size w2).then gA (fun q hq => by injection hq with hq; have := hb1.size; omega)).keep hX)
  have rD := Row.grown q1 gA (by simp)
  clear K1 K2 q0 q1 r0 r1 gA hb1 hb2 B1 B2 bW cG cF
  have hrD : A.rangeAt (w.heap.size + 1) 1 [.slice ma r.main.length mc, .slice ba r.bonus.length bc, .slice xa r.extra.length xc, .int .i64 r.factor, .string r.serial] := by
    intro j u hu
    have h9 : ([.int .i64 nn, .slice ma r.main.length mc, .slice ba r.bonus.length bc, .slice xa r.extra.length xc, .int .i64 r.factor, .string r.serial] : List Value)[1 + j]? = some u := by rw [Nat.add_comm, List.getElem?_cons_succ]; exact hu
    rw [rD.cell?]
    exact h9
  go_wp2_with (first | (refine wpList_load_mid rfl 29 _ rfl (w.heap.size + 1) 1 rfl [.slice ma r.main.length mc, .slice ba r.bonus.length bc, .slice xa r.extra.length xc, .int .i64 r.factor, .string r.serial] _ hrD Tryz.underlying29 rfl (by kernel_rfl) ?_) | fail)
  refine (cR.out _ bA).mono ?_
  rintro e w3 ⟨mv1, bv1, xv1, r2, rfl, K3, hs20, hb3⟩
  have B3 := Bel.to bA hb3
  obtain ⟨ma1, mc1, rfl, -, -, -⟩ := (K3 w3 B3).1.form
  obtain ⟨ba1, bc1, rfl, -, -, -⟩ := (K3 w3 B3).2.1.form
  obtain ⟨xa1, xc1, rfl, -, -, -⟩ := (K3 w3 B3).2.2.form
  unfold resVal
  have hthere := hide (show (w3.alloc (.cells #[.slice none 0 0, .slice none 0 0, .slice none 0 0, .int .i64 0, .string ⟨#[]⟩] 29)).there w3.heap.size 0 5 from Row.there (Row.newOf (cs := [.slice none 0 0, .slice none 0 0, .slice none 0 0, .int .i64 0, .string ⟨#[]⟩]) _ rfl))
  go_upto_region 3 with (first | (refine wpList_store_mid rfl 29 _ _ rfl w3.heap.size 0 _ rfl rfl hthere.out (by kernel_rfl) (by rfl) ?_) | fail)
  obtain ⟨Z, hZ⟩ : ∃ Z, Z = w3.alloc (.cells #[.slice ma1 r2.main.length mc1, .slice ba1 r2.bonus.length bc1, .slice xa1 r2.extra.length xc1, .int .i64 r2.factor, .string r2.serial] 29) := ⟨_, rfl⟩
  have bZ : Below w3.heap.size w3 Z := by rw [hZ]; exact Bel.al (Below.refl _ _) _
  have rR : Row Z w3.heap.size 29 [.slice ma1 r2.main.length mc1, .slice ba1 r2.bonus.length bc1, .slice xa1 r2.extra.length xc1, .int .i64 r2.factor, .string r2.serial] := by rw [hZ]; exact Row.newOf _ rfl
  rw [← hZ]
  have bAZ := Bel.to hb3 bZ
  have rA := Row.keep rA bAZ
  have rD := Row.keep rD bAZ
  have BZ := Bel.to bA bAZ
  have HR : ∀ X, Below Z.heap.size Z X → ResR X (.slice ma1 r2.main.length mc1) (.slice ba1 r2.bonus.length bc1) (.slice xa1 r2.extra.length xc1) r2 := fun X hX => K3 X (Bel.to BZ hX)
  have HG2 : ∀ X, Below Z.heap.size Z X → GameR X (.slice aa1 ms1.length ac1) (.slice ta1 g1.tiers.length tc1) ms1 g1 := fun X hX => HG X (Bel.to bAZ hX)
  have HT2 : ∀ X, Below Z.heap.size Z X → TicketsR X (.slice ka1 tm1.length kc1) tm1 := fun X hX => HT X (Bel.to bAZ hX)
  obtain ⟨rb, hrb⟩ : ∃ rb, rb = w3.heap.size := ⟨_, rfl⟩
  rw [← hrb] at rR ⊢
  obtain ⟨tn1, htn1⟩ : ∃ n, n = tm1.length := ⟨_, rfl⟩
  rw [← htn1] at HT2 ⊢
  have hgE : True := trivial
  clear hZ bZ bAZ hb3 bA hthere hrD HG HT K3 hrb cR
  have xD : Z.cell? ⟨w.heap.size + 1, 0, none⟩ = some (.int .i64 nn) := (rD.cell? 0).trans rfl
  have cW := fun (ts : Value) (tl : List TickM) (X : World) (hX : Below Z.heap.size Z X) (ht : TicketsR X ts tl) (hn : tl.length ≤ 900) => wins_any g1 _ _ ts _ _ _ ms1 tl nn r2 X (HG2 X hX) ht (HR X hX) (by omega) hin hn
  have cW1 := cW _ tm1 Z (Below.refl _ _) (HT2 Z (Below.refl _ _)) (by omega)
  obtain ⟨ts, hts⟩ : ∃ ts, ts = tm1.map (·.d) := ⟨_, rfl⟩
  rw [← hts] at cW1
  replace hts := hide hts
  replace htn1 := hide htn1
  replace HR := hide HR
  replace HG2 := hide HG2
  replace HT2 := hide HT2
  unfold gameVal resVal at cW1 cW
  replace cW := hide cW
  replace cW1 := hide cW1
  go_wp2_with (first | (refine wpList_load_row rfl 25 _ rfl _ rfl _ _ _ _ rA Tryz.underlying25 rfl (by kernel_rfl) ?_) | (refine wpList_load_row rfl 29 _ rfl _ rfl _ _ _ _ rR Tryz.underlying29 rfl (by kernel_rfl) ?_) | fail)
  refine (cW1.out).mono ?_
  rintro e w4 ⟨v4, rfl, hoW, hb4⟩
  have B4 := Bel.to BZ hb4
  have rA4 := Row.keep rA hb4
  have rR4 := Row.keep rR hb4
  have rD4 := Row.keep rD hb4
  obtain ⟨P, hP⟩ : ∃ P, P = winsP g1 ts nn r2 := ⟨_, rfl⟩
  rw [← hP] at hoW ⊢
  have hPb := fun h => winsP_bad (g := g1) (ts := ts) (draw := nn) (r := r2) h
  have hPo := fun h => winsP_ok (g := g1) (ts := ts) (draw := nn) (r := r2) h
  have hPf := fun h => winsP_facts (g := g1) (ts := ts) (draw := nn) (r := r2) h
  rw [← hP] at hPb hPo hPf
  obtain ⟨E0, c⟩ := P
  simp only [] at hoW hPb hPo hPf ⊢
  have rE0 := hide (fun X (hX : Below w4.heap.size w4 X) => RdS.below (OwnWin.rd hoW) hX)
  obtain ⟨ea0, ec0, rfl⟩ := OwnS.shape hoW
  have htsl : ts.length = tn1 := by rw [hts.out, List.length_map, htn1.out]
  clear rA rR rD xD hoW hP
  by_cases hc : c = 0
  rotate_left
  · have hcb : (c != 0) = true := by simpa using hc
    have hE0 : E0 = [] := hPb hc
    subst hE0
    rw [List.length_nil]
    replace hc := hide hc
    clear hPb hPo hPf
    go_wp2_with fail
    refine (works34_any _).mono ?_
    rintro e w99 ⟨rfl, hb99⟩
    go_wp2
    go_ret
    exact ⟨rfl, Bel.to (B4) hb99⟩
  subst hc
  obtain ⟨-, -, hE0⟩ := hPo rfl
  injection hE0 with hE0 _
  obtain ⟨-, hre, hbok⟩ := hPf rfl
  have ht8 : tn1 ≤ 6 := by have := htn1.out; omega
  have cE := hide (eligible_any _ tm1 g1.name nn w4 (HT2.out w4 hb4) hin (by have := htn1.out; omega))
  rw [← hts.out] at cE
  obtain ⟨el, hel⟩ : ∃ el, el = eligT ts g1.name nn := ⟨_, rfl⟩
  have hep : eligP ts g1.name nn = el.map fun p => (p.1 : Int) := by rw [hel]; rfl
  have helat : ∀ k (hk : k < el.length), ∃ hk2 : el[k].1 < ts.length, ts[el[k].1] = el[k].2 := by intro k hk; subst hel; exact eligT_at hk
  have hlive : ∀ k (hk : k < el.length), el[k].2.cancelled = false := by intro k hk; subst hel; exact eligT_live hk
  have hell : el.length ≤ 6 := by have := eligT_len ts g1.name nn; rw [← hel] at this; omega
  rw [hep] at cE
  rw [← hel] at hbok hE0
  have hE0l : E0.length ≤ 6 * 1024 := by rw [hE0]; have h9 := winsF_len (r := r2) hbok; omega
  obtain ⟨m0, hm0⟩ : ∃ m, m = E0.length := ⟨_, rfl⟩
  have hm8 : (m0 : Int) ≤ 6144 := by omega
  rw [← hm0] at rE0 ⊢
  obtain ⟨n, hnn⟩ : ∃ n, n = el.length := ⟨_, rfl⟩
  have hn6 : (n : Int) ≤ 6 := by omega
  have hm0h := hide hm0
  have hE0h := hide hE0
  have hreh := hide hre
  have hbokh := hide hbok
  have helath := hide helat
  have hliveh := hide hlive
  have hnnh := hide hnn
  have hrT4 := hide (fun X (hX : Below w4.heap.size w4 X) => HT2.out X (Bel.to hb4 hX))
  have hrG4 := hide (fun X (hX : Below w4.heap.size w4 X) => HG2.out X (Bel.to hb4 hX))
  have hrR4 := hide (fun X (hX : Below w4.heap.size w4 X) => HR.out X (Bel.to hb4 hX))
  have htslh := hide htsl
  have c0 : w4.cell? ⟨w.heap.size, 0, none⟩ = some (.string g1.name) := (rA4.cell? 0).trans rfl
  have xD4 : w4.cell? ⟨w.heap.size + 1, 0, none⟩ = some (.int .i64 nn) := (rD4.cell? 0).trans rfl
  clear hPb hPo hPf hE0 hE0l hm0 hre hbok helat hlive hnn hell hel hep htsl
  go_wp2_with fail
  refine cE.out.mono ?_
  rintro e w5 ⟨u0, rfl, hoE, hb5⟩
  obtain ⟨la, lc, rfl, -, -, -⟩ := hoE.rd.form
  rw [show (el.map fun p => (p.1 : Int)).length = n by rw [List.length_map]; exact hnnh.out.symm] at hoE ⊢
  have hrE := hide (fun X (hX : Below w5.heap.size w5 X) => hoE.rd.below hX)
  have B5 := hide (Bel.to B4 hb5)
  have b45 := hide hb5
  have rA5 := hide (Row.keep rA4 hb5)
  have rR5 := hide (Row.keep rR4 hb5)
  clear hoE hb5 cE c0 xD4 rA4 rR4 rD4
  go_wp2
  go_loopg [10, 12, 13, 14, 15, 16, 17, 49, 82] n (fun gh t10 _ _ _ _ _ _ t49 _ wr => ∃ (k : Nat), gh = n - k ∧ k ≤ n ∧ t49 = .int .i64 (k : Int) ∧ t10 = .int .i64 ((winsF g1 r2 (el.take k)).length : Int) ∧ Hid (Below w5.heap.size w5 wr))
  case atStart => exact ⟨0, rfl, Nat.zero_le _, rfl, rfl, Below.refl _ _⟩
  case round =>
    obtain ⟨k, hgh, hk, rfl, rfl, hB⟩ := hrel
    replace hgh := hide hgh
    have b4w : Below w4.heap.size w4 wr := b45.out.trans (hB.out.mono b45.out.size)
    have R0 : Row wr w.heap.size 25 (gameCells g1 (.slice aa1 ms1.length ac1) (.slice ta1 g1.tiers.length tc1)) := Row.keep rA5.out hB.out
    by_cases hlt : k < n
    · have hlt2 := hide hlt
      have hke : k < el.length := by rw [← hnnh.out]; exact hlt
      obtain ⟨b0, off0, rfl, hb0, hcell⟩ := (hrE.out wr hB.out).at_ (k := k) (by rw [List.length_map]; exact hke)
      obtain ⟨q, hq⟩ : ∃ q, q = el[k].1 := ⟨_, rfl⟩
      have e1 : wr.cell? ⟨b0, off0 + k, none⟩ = some (.int .i64 (q : Int)) := by rw [hcell k (by rw [List.length_map]; exact hke), hq, List.getElem_map]
      obtain ⟨hq2, hq3⟩ := helath.out k hke
      have hqN : q < tn1 := by rw [← htslh.out, hq]; exact hq2
      have hq4 : q < tm1.length := by rw [← htn1.out]; exact hqN
      obtain ⟨m, hm⟩ : ∃ m, m = tm1[q] := ⟨_, rfl⟩
      have hmd : m.d = el[k].2 := by
        have h9 : ts[q]? = some m.d := by rw [hts.out, List.getElem?_map, List.getElem?_eq_getElem hq4, ← hm]; rfl
        have h8 : ts[q]? = some el[k].2 := by rw [← hq3, hq, List.getElem?_eq_getElem hq2]
        rw [h9] at h8
        injection h8
      have hTk := hrT4.out wr b4w
      obtain ⟨b1, off1, rfl, hb1, hcl⟩ := hTk.1.at_ hq4
      have hmi : tm1[q]? = some m := by rw [hm]; exact List.getElem?_eq_getElem hq4
      have hcl2 := hcl q m hmi
      have hlr := (hTk.2 m (by rw [hm]; exact List.getElem_mem hq4)).1
      have hliv : m.d.cancelled = false := by rw [hmd]; exact hliveh.out k hke
      clear hcell hcl hTk hmi hm hq3 hb0 hb1
      obtain ⟨⟨t1, t2, Bt, t3, t4, t5, t6, t7, t8, t9, t10⟩, lv⟩ := m
      simp only [] at hmd hlr hcl2 hliv
      subst hliv
      obtain ⟨sa, sc, rfl, hsl1, hsl2⟩ := hlr.shape
      obtain ⟨sn, hsn⟩ : ∃ sn, sn = Bt.lines.length := ⟨_, rfl⟩
      rw [← hsn] at hlr hcl2
      have hrange : wr.rangeAt b1 (off1 + q * 14 + 2) [.slice sa sn sc, .bool Bt.sys, .int .i64 Bt.draws, .int .i64 Bt.addons] := by
        intro j u hu
        match j, hu with
        | 0, hu => exact hcl2 2 u hu
        | 1, hu => exact hcl2 3 u hu
        | 2, hu => exact hcl2 4 u hu
        | 3, hu => exact hcl2 5 u hu
      have e13 : wr.cell? ⟨b1, off1 + q * 14 + 13, none⟩ = some (.bool false) := hcl2 13 _ rfl
      have hbet : el[k].2.bet = Bt := by rw [← hmd]
      have hbk : (betP g1 Bt).2 = 0 := by rw [← hbet]; exact hbokh.out _ (List.getElem_mem hke)
      clear hcl2 hsl1 hsl2
      have j1 : (0 : Int) ≤ (k : Int) := by omega
      have j2 : (k : Int) < (n : Int) := by omega
      have j3 : (0 : Int) ≤ (q : Int) := by omega
      have j4 : (q : Int) < (tn1 : Int) := by omega
      have j5 : decide ((q : Int) < 0) = false := decide_eq_false (by omega)
      have j6 : decide ((tn1 : Int) ≤ (q : Int)) = false := decide_eq_false (by omega)
      have bd : Below wr.heap.size wr wr.drew := Below.drewSelf wr
      have cL1 := hide (blines_ok g1 _ _ (.slice sa sn sc) ms1 Bt wr.drew (hrG4.out wr.drew (b4w.trans (bd.mono b4w.size))) (hlr.below bd) hbk)
      unfold gameVal betVal at cL1
      have hTlen := linesB_len hbk
      have hTv := hide (linesB_valid hbk)
      obtain ⟨T, hT⟩ : ∃ T, T = linesB g1 Bt := ⟨_, rfl⟩
      rw [← hT] at cL1 hTlen hTv
      have hTe : Hid (T = linesB g1 el[k].2.bet) := by show T = _; rw [hT, hbet]
      have hqe : Hid ((q : Int) = (el[k].1 : Int)) := by show (q : Int) = _; rw [hq]
      have hkeh := hide hke
      replace hq := hide hq
      replace hsn := hide hsn
      have hTlen2 := hide hTlen
      clear hq2 hq4 hmd hbet hbk hT hlr hTlen
      go_upto_region 12 with (fail)
      refine wp_region_held_drew (S := fun X => Rng X [(w.heap.size, gameCells g1 (.slice aa1 ms1.length ac1) (.slice ta1 g1.tiers.length tc1))] ∧ X.rangeAt b1 (off1 + q * 14 + 2) [.slice sa sn sc, .bool Bt.sys, .int .i64 Bt.draws, .int .i64 Bt.addons]) (by kernel_rfl) (⟨Rng.drew (Rng.cons R0 (Rng.nil _)), hrange⟩) (fun hHeld => ?_)
      refine' wpAnyH_take (i := 0) (oi := _) (v := _) rfl (by kernel_rfl) (by kernel_rfl) (by kernel_rfl) (fun _ _ _ h => h) (yieldsIf_load_mid (by first | (go_simp; done) | rfl) 25 (.tmp 3) rfl (w.heap.size) (0) rfl (gameCells g1 (.slice aa1 ms1.length ac1) (.slice ta1 g1.tiers.length tc1)) _ (fun X h => Rng.at0 h.1) Tryz.underlying25 rfl (by kernel_rfl)) hHeld ?_
      try simp only [Act.put, List.setIfInBounds_toArray, List.set_cons_zero, List.set_cons_succ]
      refine' wpAnyH_take (i := 1) (oi := _) (v := .slice (some ⟨b1, off1, none⟩) tn1 kc1) rfl (by kernel_rfl) (by kernel_rfl) (by kernel_rfl) (fun _ _ _ h => h) (Or.inl ⟨by first | (go_simp; done) | rfl, fun X _ => by go_simp⟩) hHeld ?_
      try simp only [Act.put, List.setIfInBounds_toArray, List.set_cons_zero, List.set_cons_succ]
      refine' wpAnyH_take (i := 2) (oi := _) (v := .int .i64 (q : Int)) rfl (by kernel_rfl) (by kernel_rfl) (by kernel_rfl) (fun _ _ _ h => h) (Or.inl ⟨by first | (go_simp; done) | rfl, fun X _ => by go_simp⟩) hHeld ?_
      try simp only [Act.put, List.setIfInBounds_toArray, List.set_cons_zero, List.set_cons_succ]
      refine' wpAnyH_take (i := 3) (oi := _) (v := .pointer (some ⟨b1, off1 + q * 14, none⟩)) rfl (by kernel_rfl) (by kernel_rfl) (by kernel_rfl) (fun _ _ _ h => h) (Or.inl ⟨by first | (go_simp; done) | rfl, fun X _ => by go_simp⟩) hHeld ?_
      try simp only [Act.put, List.setIfInBounds_toArray, List.set_cons_zero, List.set_cons_succ]
      refine' wpAnyH_take (i := 4) (oi := _) (v := .pointer (some ⟨b1, off1 + q * 14 + 2, none⟩)) rfl (by kernel_rfl) (by kernel_rfl) (by kernel_rfl) (fun _ _ _ h => h) (Or.inl ⟨by first | (go_simp; done) | rfl, fun X _ => by go_simp⟩) hHeld ?_
      try simp only [Act.put, List.setIfInBounds_toArray, List.set_cons_zero, List.set_cons_succ]
      refine' wpAnyH_take (i := 5) (oi := _) (v := .agg #[.slice sa sn sc, .bool Bt.sys, .int .i64 Bt.draws, .int .i64 Bt.addons]) rfl (by kernel_rfl) (by kernel_rfl) (by kernel_rfl) (fun _ _ _ h => h) (by refine (yieldsIf_load_mid ?_ 50 (.tmp 73) rfl b1 (off1 + q * 14 + 2) ?_ ([.slice sa sn sc, .bool Bt.sys, .int .i64 Bt.draws, .int .i64 Bt.addons]) _ (fun X h => h.2) Tryz.underlying50 rfl (by kernel_rfl)) <;> go_simp) hHeld ?_
      try simp only [Act.put, List.setIfInBounds_toArray, List.set_cons_zero, List.set_cons_succ]
      refine wpAnyH_ready (rs := [6]) (by kernel_rfl) (by simp) ?_
      refine AllReadyH.cons (o := _) rfl (fun K hK => ?_) AllReadyH.nil
      go_simp
      refine (cL1.out).mono ?_
      rintro e w6 ⟨u, rfl, hu, hb6⟩
      obtain ⟨ua, uc, rfl⟩ := hu.shape
      go_wp2_with fail
      refine hK.out _ _ (⟨Rng.keep hHeld.1 hb6, fun j u hu => Bel.cellOf hb6 (hHeld.2 j u hu)⟩) (fun hHeld => ?_)
      clear hK K
      try simp only [Act.put, List.setIfInBounds_toArray, List.set_cons_zero, List.set_cons_succ]
      refine' wpAnyH_take (i := 7) (oi := _) (v := .tuple #[.slice ua T.length uc, .int .i64 0]) rfl (by kernel_rfl) (by kernel_rfl) (by kernel_rfl) (fun _ _ _ h => h) (Or.inl ⟨by first | (go_simp; done) | rfl, fun X _ => by go_simp⟩) hHeld ?_
      try simp only [Act.put, List.setIfInBounds_toArray, List.set_cons_zero, List.set_cons_succ]
      refine' wpAnyH_take (i := 8) (oi := _) (v := .slice ua T.length uc) rfl (by kernel_rfl) (by kernel_rfl) (by kernel_rfl) (fun _ _ _ h => h) (Or.inl ⟨by first | (go_simp; done) | rfl, fun X _ => by go_simp⟩) hHeld ?_
      try simp only [Act.put, List.setIfInBounds_toArray, List.set_cons_zero, List.set_cons_succ]
      refine' wpAnyH_take (i := 9) (oi := _) (v := .int .i64 0) rfl (by kernel_rfl) (by kernel_rfl) (by kernel_rfl) (fun _ _ _ h => h) (Or.inl ⟨by first | (go_simp; done) | rfl, fun X _ => by go_simp⟩) hHeld ?_
      try simp only [Act.put, List.setIfInBounds_toArray, List.set_cons_zero, List.set_cons_succ]
      refine' wpAnyH_take (i := 10) (oi := _) (v := .slice ua T.length uc) rfl (by kernel_rfl) (by kernel_rfl) (by kernel_rfl) (fun _ _ _ h => h) (Or.inl ⟨by first | (go_simp; done) | rfl, fun X _ => by go_simp⟩) hHeld ?_
      try simp only [Act.put, List.setIfInBounds_toArray, List.set_cons_zero, List.set_cons_succ]
      refine' wpAnyH_take (i := 11) (oi := _) (v := .int .i64 0) rfl (by kernel_rfl) (by kernel_rfl) (by kernel_rfl) (fun _ _ _ h => h) (Or.inl ⟨by first | (go_simp; done) | rfl, fun X _ => by go_simp⟩) hHeld ?_
      try simp only [Act.put, List.setIfInBounds_toArray, List.set_cons_zero, List.set_cons_succ]
      refine wpAnyH_done (by kernel_rfl) ?_ _
      go_simp
      clear hHeld
      obtain ⟨wo, hwo⟩ : ∃ wo, wo = wr := ⟨_, rfl⟩
      subst hwo
      have b6 := Bel.to bd hb6
      have hu6 : OwnLn w6 wo.heap.size (.slice ua T.length uc) T := hu
      have hrL := hide (fun X (hX : Below w6.heap.size w6 X) => hu6.rd.below hX)
      have b56 := hide (hB.out.trans (b6.mono hB.out.size))
      obtain ⟨M, hM⟩ : ∃ M, M = T.length := ⟨_, rfl⟩
      rw [← hM] at hrL ⊢
      have hMh := hide hM
      have hM9 : (M : Int) ≤ 1024 := by have := hTlen2.out; omega
      have hz := winsPre_zero g1 r2 el k (q : Int) T
      rw [← hz]
      replace hz := hide hz
      clear hu hu6 cL1 hb6 bd b6 hrange e1 e13 R0 hB b4w hM
      go_wp2
      go_loopg [10, 15, 16, 17, 82] M (fun gh2 t10 _ _ _ t82 wr => ∃ (j : Nat), gh2 = M - j ∧ j ≤ M ∧ t82 = .int .i64 (j : Int) ∧ t10 = .int .i64 ((winsPre g1 r2 el k (q : Int) T j).length : Int) ∧ Hid (Below w6.heap.size w6 wr))
      case atStart => exact ⟨0, rfl, Nat.zero_le _, rfl, rfl, Below.refl _ _⟩
      case round =>
        obtain ⟨j, hgh2, hj, rfl, rfl, hB⟩ := hrel
        replace hgh2 := hide hgh2
        have b5w : Below w5.heap.size w5 wr := b56.out.trans (hB.out.mono b56.out.size)
        have b4w : Below w4.heap.size w4 wr := b45.out.trans (b5w.mono b45.out.size)
        have R0 : Row wr w.heap.size 25 (gameCells g1 (.slice aa1 ms1.length ac1) (.slice ta1 g1.tiers.length tc1)) := Row.keep rA5.out b5w
        have R1 : Row wr rb 29 [.slice ma1 r2.main.length mc1, .slice ba1 r2.bonus.length bc1, .slice xa1 r2.extra.length xc1, .int .i64 r2.factor, .string r2.serial] := Row.keep rR5.out b5w
        by_cases hjl : j < M
        · have hjl2 := hide hjl
          have hjT : j < T.length := by rw [← hMh.out]; exact hjl
          obtain ⟨b2, off2, mv2, bv2, rfl, hb2, x1, y1, hl⟩ := (hrL.out wr hB.out).at_ hjT
          have hval := (hTv.out T[j] (List.getElem_mem hjT)).1
          obtain ⟨t, htt⟩ : ∃ t, t = tierM g1 T[j] r2 := ⟨_, rfl⟩
          have hlo := tierM_lo g1 T[j] r2
          rw [← htt] at hlo
          have hat := fun h => winsPre_at (r := r2) hkeh.out hqe.out hTe.out hjT h
          have hsk := fun h => winsPre_skip (r := r2) (g := g1) (el := el) (k := k) (q := (q : Int)) hjT h
          rw [← htt, ← hE0h.out] at hat
          rw [← htt] at hsk
          obtain ⟨x, hx⟩ : ∃ x, x = T[j] := ⟨_, rfl⟩
          rw [← hx] at hl hval htt
          obtain ⟨s1, m1, k1, rfl⟩ := Rd.shape hl.1
          obtain ⟨s2, m2, k2, rfl⟩ := Rd.shape hl.2
          have hrange : wr.rangeAt b2 (off2 + j * 2) [.slice s1 m1 k1, .slice s2 m2 k2] := by
            intro i v hv
            match i, hv with
            | 0, hv => simp at hv; subst hv; exact x1
            | 1, hv => simp at hv; subst hv; exact y1
          have bd : Below wr.heap.size wr wr.drew := Below.drewSelf wr
          have b4d := b4w.trans (bd.mono b4w.size)
          have cM := mtier_any g1 _ _ (.slice s1 m1 k1) (.slice s2 m2 k2) _ _ _ ms1 x r2 wr.drew (hrG4.out _ b4d) (hl.below bd) (hrR4.out _ b4d) (by omega)
          rw [tierP_valid hval hreh.out, ← htt] at cM
          simp only [] at cM
          unfold gameVal lineVal resVal at cM
          replace cM := hide cM
          have i1 : (0 : Int) ≤ (j : Int) := by omega
          have i2 : (j : Int) < (M : Int) := by omega
          replace hx := hide hx
          replace htt := hide htt
          replace hat := hide hat
          replace hsk := hide hsk
          have hloh := hide hlo
          clear x1 y1 hl hval b4d b4w b5w
          go_upto_region 18 with (fail)
          refine wp_region_held_drew (S := fun X => Rng X [(w.heap.size, gameCells g1 (.slice aa1 ms1.length ac1) (.slice ta1 g1.tiers.length tc1)), (rb, [.slice ma1 r2.main.length mc1, .slice ba1 r2.bonus.length bc1, .slice xa1 r2.extra.length xc1, .int .i64 r2.factor, .string r2.serial])] ∧ X.rangeAt b2 (off2 + j * 2) [.slice s1 m1 k1, .slice s2 m2 k2]) (by kernel_rfl) (⟨Rng.drew (Rng.cons R0 (Rng.cons R1 (Rng.nil _))), hrange⟩) (fun hHeld => ?_)
          refine' wpAnyH_take (i := 0) (oi := _) (v := _) rfl (by kernel_rfl) (by kernel_rfl) (by kernel_rfl) (fun _ _ _ h => h) (yieldsIf_load_mid (by first | (go_simp; done) | rfl) 25 (.tmp 3) rfl (w.heap.size) (0) rfl (gameCells g1 (.slice aa1 ms1.length ac1) (.slice ta1 g1.tiers.length tc1)) _ (fun X h => Rng.at0 h.1) Tryz.underlying25 rfl (by kernel_rfl)) hHeld ?_
          try simp only [Act.put, List.setIfInBounds_toArray, List.set_cons_zero, List.set_cons_succ]
          refine' wpAnyH_take (i := 1) (oi := _) (v := .slice (some ⟨b2, off2, none⟩) M uc) rfl (by kernel_rfl) (by kernel_rfl) (by kernel_rfl) (fun _ _ _ h => h) (Or.inl ⟨by first | (go_simp; done) | rfl, fun X _ => by go_simp⟩) hHeld ?_
          try simp only [Act.put, List.setIfInBounds_toArray, List.set_cons_zero, List.set_cons_succ]
          refine' wpAnyH_take (i := 2) (oi := _) (v := .int .i64 (j : Int)) rfl (by kernel_rfl) (by kernel_rfl) (by kernel_rfl) (fun _ _ _ h => h) (Or.inl ⟨by first | (go_simp; done) | rfl, fun X _ => by go_simp⟩) hHeld ?_
          try simp only [Act.put, List.setIfInBounds_toArray, List.set_cons_zero, List.set_cons_succ]
          refine' wpAnyH_take (i := 3) (oi := _) (v := .pointer (some ⟨b2, off2 + j * 2, none⟩)) rfl (by kernel_rfl) (by kernel_rfl) (by kernel_rfl) (fun _ _ _ h => h) (Or.inl ⟨by first | (go_simp; done) | rfl, fun X _ => by go_simp⟩) hHeld ?_
          try simp only [Act.put, List.setIfInBounds_toArray, List.set_cons_zero, List.set_cons_succ]
          refine' wpAnyH_take (i := 4) (oi := _) (v := .agg #[.slice s1 m1 k1, .slice s2 m2 k2]) rfl (by kernel_rfl) (by kernel_rfl) (by kernel_rfl) (fun _ _ _ h => h) (by refine (yieldsIf_load_mid ?_ 58 (.tmp 89) rfl b2 (off2 + j * 2) ?_ ([.slice s1 m1 k1, .slice s2 m2 k2]) _ (fun X h => h.2) Tryz.underlying58 rfl (by kernel_rfl)) <;> go_simp) hHeld ?_
          try simp only [Act.put, List.setIfInBounds_toArray, List.set_cons_zero, List.set_cons_succ]
          refine' wpAnyH_take (i := 5) (oi := _) (v := .agg #[.slice ma1 r2.main.length mc1, .slice ba1 r2.bonus.length bc1, .slice xa1 r2.extra.length xc1, .int .i64 r2.factor, .string r2.serial]) rfl (by kernel_rfl) (by kernel_rfl) (by kernel_rfl) (fun _ _ _ h => h) (by refine (yieldsIf_load_mid ?_ 29 (.tmp 7) rfl rb (0) ?_ ([.slice ma1 r2.main.length mc1, .slice ba1 r2.bonus.length bc1, .slice xa1 r2.extra.length xc1, .int .i64 r2.factor, .string r2.serial]) _ (fun X h => Rng.at1 h.1) Tryz.underlying29 rfl (by kernel_rfl)) <;> go_simp) hHeld ?_
          try simp only [Act.put, List.setIfInBounds_toArray, List.set_cons_zero, List.set_cons_succ]
          refine wpAnyH_ready (rs := [6]) (by kernel_rfl) (by simp) ?_
          refine AllReadyH.cons (o := _) rfl (fun K hK => ?_) AllReadyH.nil
          go_simp
          refine (cM.out).mono ?_
          rintro e w8 ⟨rfl, hb8⟩
          go_wp2_with fail
          refine hK.out _ _ (⟨Rng.keep hHeld.1 hb8, fun j u hu => Bel.cellOf hb8 (hHeld.2 j u hu)⟩) (fun hHeld => ?_)
          clear hK K
          try simp only [Act.put, List.setIfInBounds_toArray, List.set_cons_zero, List.set_cons_succ]
          refine' wpAnyH_take (i := 7) (oi := _) (v := .tuple #[.int .i64 t, .int .i64 0]) rfl (by kernel_rfl) (by kernel_rfl) (by kernel_rfl) (fun _ _ _ h => h) (Or.inl ⟨by first | (go_simp; done) | rfl, fun X _ => by go_simp⟩) hHeld ?_
          try simp only [Act.put, List.setIfInBounds_toArray, List.set_cons_zero, List.set_cons_succ]
          refine' wpAnyH_take (i := 8) (oi := _) (v := .int .i64 t) rfl (by kernel_rfl) (by kernel_rfl) (by kernel_rfl) (fun _ _ _ h => h) (Or.inl ⟨by first | (go_simp; done) | rfl, fun X _ => by go_simp⟩) hHeld ?_
          try simp only [Act.put, List.setIfInBounds_toArray, List.set_cons_zero, List.set_cons_succ]
          refine' wpAnyH_take (i := 9) (oi := _) (v := .int .i64 0) rfl (by kernel_rfl) (by kernel_rfl) (by kernel_rfl) (fun _ _ _ h => h) (Or.inl ⟨by first | (go_simp; done) | rfl, fun X _ => by go_simp⟩) hHeld ?_
          try simp only [Act.put, List.setIfInBounds_toArray, List.set_cons_zero, List.set_cons_succ]
          refine' wpAnyH_take (i := 10) (oi := _) (v := .int .i64 t) rfl (by kernel_rfl) (by kernel_rfl) (by kernel_rfl) (fun _ _ _ h => h) (Or.inl ⟨by first | (go_simp; done) | rfl, fun X _ => by go_simp⟩) hHeld ?_
          try simp only [Act.put, List.setIfInBounds_toArray, List.set_cons_zero, List.set_cons_succ]
          refine' wpAnyH_take (i := 11) (oi := _) (v := .int .i64 0) rfl (by kernel_rfl) (by kernel_rfl) (by kernel_rfl) (fun _ _ _ h => h) (Or.inl ⟨by first | (go_simp; done) | rfl, fun X _ => by go_simp⟩) hHeld ?_
          try simp only [Act.put, List.setIfInBounds_toArray, List.set_cons_zero, List.set_cons_succ]
          refine wpAnyH_done (by kernel_rfl) ?_ _
          go_simp
          clear hHeld
          have hB8 := hide (Bel.to hB.out (Bel.to bd hb8))
          have b58 := b56.out.trans (hB8.out.mono b56.out.size)
          have b48 : Below w4.heap.size w4 w8 := b45.out.trans (b58.mono b45.out.size)
          by_cases hneg : t = -1
          · have hs := hsk.out hneg
            have hz1 : decide (0 ≤ t) = false := decide_eq_false (by omega)
            rw [← hs]
            replace hs := hide hs
            replace hneg := hide hneg
            clear hb8 bd hrange R0 R1 hB cM b58 b48 hat hsk hlo
            go_wp2
            go_roundg (M - (j + 1))
            case measure => have := hgh2.out; have := hjl2.out; omega
            case rel => exact ⟨j + 1, rfl, by have := hjl2.out; omega, by go_num, rfl, hB8⟩
          · obtain ⟨ha1, ha2⟩ := hat.out hneg
            obtain ⟨z, hz9⟩ : ∃ z, z = (winsPre g1 r2 el k (q : Int) T j).length := ⟨_, rfl⟩
            rw [← hz9] at ha1 ha2 ⊢
            have hzE : z < E0.length := (List.getElem?_eq_some_iff.1 ha1).1
            have hzm : z < m0 := by rw [hm0h.out]; exact hzE
            obtain ⟨b3, off3, rfl, hb3, hc3⟩ := (rE0.out w8 b48).at_ hzE
            have hrW : w8.rangeAt b3 (off3 + z * 3) [.int .i64 (q : Int), .int .i64 (j : Int), .int .i64 t] := fun i u hu => hc3 z _ ha1 i u hu
            have hz1 : decide (0 ≤ t) = true := decide_eq_true (by omega)
            have z1 : (0 : Int) ≤ (z : Int) := by omega
            have z2 : (z : Int) < (m0 : Int) := by omega
            have z3 : decide ((m0 : Int) ≤ (z : Int)) = false := decide_eq_false (by omega)
            have ha3 : Hid ((winsPre g1 r2 el k (q : Int) T (j + 1)).length = z + 1) := ha2
            replace hz9 := hide hz9
            replace hneg := hide hneg
            clear hb8 bd hrange R0 R1 hB cM b58 b48 hat hsk hlo hc3 ha1 ha2 hzE
            go_wp2_with (first | ((refine wpList_load_mid_if ?_ 46 _ rfl b3 (off3 + z * 3) ?_ [.int .i64 (q : Int), .int .i64 (j : Int), .int .i64 t] _ hrW Tryz.underlying46 rfl (by kernel_rfl) ?_); (focus (first | rfl | (go_simp; done))); (focus (first | rfl | (go_simp; done)))) | fail)
            go_roundg (M - (j + 1))
            case measure => have := hgh2.out; have := hjl2.out; omega
            case rel => exact ⟨j + 1, rfl, by have := hjl2.out; omega, by go_num, by rw [ha3.out]; go_num, hB8⟩
        · have hjM : j = T.length := by have := hMh.out; omega
          have hend := winsPre_end (r := r2) hkeh.out hqe.out hTe.out
          rw [hjM, hend]
          replace hend := hide hend
          have i2 : ¬ ((T.length : Nat) : Int) < (M : Int) := by omega
          replace hjM := hide hjM
          have hBh := hide b5w
          clear b5w b4w R0 R1 hB
          go_wp2
          go_roundg (n - (k + 1))
          case measure => have := hgh.out; have := hlt2.out; omega
          case rel => exact ⟨k + 1, rfl, by have := hlt2.out; omega, by go_num, rfl, hBh⟩
    · have hkn : k = el.length := by have := hnnh.out; omega
      have hfull : (winsF g1 r2 (el.take k)).length = m0 := by rw [hkn, List.take_length, hm0h.out, hE0h.out]
      rw [hfull]
      have j2 : ¬ (k : Int) < (n : Int) := by have := hnnh.out; omega
      have g9 : ((m0 : Int) == (m0 : Int)) = true := by simp
      replace hkn := hide hkn
      replace hfull := hide hfull
      clear b4w R0
      go_wp2_with fail
      refine (works34_any _).mono ?_
      rintro e w99 ⟨rfl, hb99⟩
      go_wp2
      go_ret
      exact ⟨rfl, Bel.to (Bel.to B5.out hB.out) hb99⟩
end Go.Proofs.YtfggjlekcdpmmaaGreat
end

section
/- WinnerMatches: for every input the Go function lotterylaw34.WinnerMatches returns true, and each argument reads afterwards as before. Conditions: none. -/
namespace Go.Proofs.YtfggjlekcdpmmaaGreat.winnerMatches
open Go.ChangeShapes Go.WideShapes Go.ChangeAt Go.RowKit
set_option linter.unusedVariables false

theorem own : ownKnob Tryz.prog.godebug = none := by kernel_rfl
theorem laidOut : laidOutB Tryz.prog = true := by kernel_rfl

set_option maxRecDepth 100000 in
theorem lifted (os : Os) (started : os.Started) (H : Type) (enc : TypeId × Value → H) :
    ReturnsInHanded {} Tryz.checked os 6 .any (Rows.winnerMatchesSpec.pre6 enc Tryz.prog Tryz.f6 Rows.winnerMatchesRow.domain false) (Rows.winnerMatchesSpec.post enc Tryz.prog Tryz.f6 false true false false) := by
  refine returnsInHanded_of_change (C := Tryz.checked) own started (by kernel_rfl) Tryz.func6
    (ChangeSpec.witness6 (enc := enc) (C := Tryz.checked) false ⟨#[], #[.agg #[.string ⟨#[]⟩, .int .i64 0, .int .i64 0, .int .i64 0, .int .i64 0, .int .i64 0, .int .i64 0, .int .i64 0, .int .i64 0, .int .i64 0, .int .i64 0, .int .i64 0, .int .i64 0, .int .i64 0, .int .i64 0, .int .i64 0, .int .i64 0, .int .i64 0, .int .i64 0, .int .i64 0, .slice none 0 0, .slice none 0 0], .slice none 0 0, .agg #[.int .i64 0, .slice none 0 0, .slice none 0 0, .slice none 0 0, .int .i64 0, .string ⟨#[]⟩]], []⟩ 8 (by kernel_rfl) (by kernel_rfl) (by kernel_rfl) (by kernel_rfl)) ?_
  intro W base args ds gs before hval0 hW hcnd _
  have hval : ∀ (j : Nat) t v, Tryz.f6.params[j]? = some t → args[j]? = some v → Value.okWide Tryz.prog W .any base t v := hval0
  have hW' := hW
  obtain ⟨p, q, hA0, hV, rfl, hfz, hnd⟩ := hW
  have hA : DataW.TrodAll enc Tryz.prog W 0 (fun _ => true) true Tryz.f6.params.toList args.toList ds p := hA0
  rw [Tryz.params6] at hA hval
  obtain ⟨v0, vs0, d0, ds0, p0, q0, hargs, rfl, rfl, h0, r0⟩ := trodAll_cons hA
  obtain ⟨v1, vs1, d1, ds1, p1, q1, rfl, rfl, rfl, h1, r1⟩ := trodAll_cons r0
  obtain ⟨v2, vs2, d2, ds2, p2, q2, rfl, rfl, rfl, h2, r2⟩ := trodAll_cons r1
  obtain ⟨rfl, rfl, rfl⟩ := trodAll_nil r2
  obtain rfl : args = #[v0, v1, v2] := by cases args; simp_all
  obtain ⟨rfl, rfl⟩ := trodVars_none hV
  obtain ⟨cs0, rfl, hsz0⟩ := okWide_struct Tryz.underlying25 (hval 0 25 v0 rfl rfl)
  have k0 := h0
  have lt0 : ∀ x ∈ p0, x.block < W.heap.size := by obtain ⟨m, hm⟩ := k0; exact DataW.trod_lt m _ _ _ hm
  obtain ⟨g0, av0, tv0, ms0, eg0, rg0⟩ := game_trod h0
  rw [eg0] at k0 hW' ⊢
  obtain ⟨a1, len1, cap1, rfl⟩ := okWide_slice Tryz.underlying26 (hval 1 26 v1 rfl rfl)
  have k1 := h1
  have lt1 : ∀ x ∈ p1, x.block < W.heap.size := by obtain ⟨m, hm⟩ := k1; exact DataW.trod_lt m _ _ _ hm
  obtain ⟨ms1, rg1⟩ := tickets_open h1
  obtain ⟨cs2, rfl, hsz2⟩ := okWide_struct Tryz.underlying31 (hval 2 31 v2 rfl rfl)
  have k2 := h2
  have lt2 : ∀ x ∈ p2, x.block < W.heap.size := by obtain ⟨m, hm⟩ := k2; exact DataW.trod_lt m _ _ _ hm
  obtain ⟨nn2, dm2, db2, dx2, dr2, eg2, rg2, in2⟩ := draw_open h2
  rw [eg2] at k2 hW' ⊢
  clear hA0 hval0
  refine (matches34_walk g0 av0 tv0 ms0 _ ms1 nn2 dm2 db2 dx2 dr2 W rg0 rg1 rg2 in2).mono fun e W' ⟨he, bel⟩ => ?_
  subst he
  exact ⟨_, rfl, _, _, _, [], _, [], hW', trodAll_mk1 (shut_bool Tryz.underlying4 _), (trodAll_cons_mk (Below.trod laidOut (by kernel_rfl) (of_decide_eq_true (by kernel_rfl)) k0 bel lt0) (trodAll_cons_mk (Below.trod laidOut (by kernel_rfl) (of_decide_eq_true (by kernel_rfl)) k1 bel lt1) (trodAll_cons_mk (Below.trod laidOut (by kernel_rfl) (of_decide_eq_true (by kernel_rfl)) k2 bel lt2) trodAll_mk0))), rfl, bel.frame _, fun h => by cases h⟩

theorem over : Rows.winnerMatchesRow.holds Tryz.pinned (OpenSpec.ofChange Rows.winnerMatchesSpec) :=
  OpenClaim.holds_of_wide 6 Tryz.f6 rfl rfl rfl rfl rfl rfl rfl ⟨rfl, rfl, rfl, rfl, rfl⟩ rfl rfl rfl rfl rfl (by kernel_rfl) Tryz.func6 (by kernel_rfl)
    (of_decide_eq_true (by kernel_rfl)) (by unfold Func.isWrapper; first | (rw [if_pos (by decide +kernel)]; kernel_rfl) | (rw [if_neg (by decide +kernel)]; exact ⟨rfl, rfl⟩))
    (fun os started H enc _ => lifted os started H enc)

theorem proved : Rows.WinnerMatchesSaid := over
#print axioms proved
end Go.Proofs.YtfggjlekcdpmmaaGreat.winnerMatches
end

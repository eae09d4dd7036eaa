/- WinnerCounts: for every input the Go function lotterylaw34.WinnerCounts returns true, and each argument reads afterwards as before. Conditions: none. -/
import Derived.Test.YtfggjlekcdpmmaaGreatRows
import Derived.WalkKit
import Derived.ProofKit
import Derived.OpenShut
import Derived.ChangeOld
import Derived.Below
import Derived.Test.YtfggjlekcdpmmaaGreatGWinC
import Derived.Test.YtfggjlekcdpmmaaGreatGTrod
import Derived.Test.YtfggjlekcdpmmaaGreatGTrodB

section
/- lotterylaw34.WinnerCounts: the walk. No condition. -/
open Go.RowKit
set_option linter.unusedVariables false
set_option linter.unusedSimpArgs false
namespace Go.Proofs.YtfggjlekcdpmmaaGreat

theorem run_cutS {P : Program} {w : World} {o : Oper} {a : Act} (x hi : Operand) (t : TypeId) (hop : o.op = .slice t x none (some hi) none) (ht : P.underlying t = some (.slice (P.elem t))) (sz : Nat) (hs : ∀ w, (sizeOf (P.elem t)).run P w = .ok sz w)
    (ao : Option Addr) (n cap : Nat) (hx : a.eval x = .slice ao n cap) (m : Nat) (hm : a.eval hi = .int .i64 m) (hmc : m ≤ cap) : (execOp a.eval o).run P w = .ok (.value (.slice ao m cap)) w := by
  have hrun := run_slice_h (P := P) (w := w) t ao n cap ht .i64 m (by omega) (by omega)
  have hrun' := (run_sliceAt_slice (P := P) (w := w) t (.slice ao n cap) none (some (.int .i64 m)) none ht).trans hrun
  simp [execOp, hop, hx, hm, hrun', hs, Result.andThen, sliced_to]

set_option maxHeartbeats 8000000 in
set_option maxRecDepth 100000 in
theorem counts34_walk (g : GameD) (av tv : Value) (ms : List AddonM) (v : Value) (ws : List WinD) (w : World) (rg : GameR w av tv ms g) (rl : WinsR w v ws) :
    Calls Tryz.prog 8 #[gameVal g av tv, v] w (BoolB true w) := by
  have cG := hide (fun X (hX : Below w.heap.size w X) => small25_any g av tv ms w X rg hX)
  obtain ⟨aa, ac, rfl, hal, ham⟩ := rg.1.1.shape
  obtain ⟨ta, tc, rfl, htl, htm⟩ := rg.2.2.shape
  obtain ⟨wa, wc, rfl, hwl, hwm⟩ := RdS.shape rl
  obtain ⟨k, hk⟩ : ∃ k, k = min 60 ws.length := ⟨_, rfl⟩
  have e1 : min ((ws.length : Nat) : Int) 60 = (k : Int) := by omega
  have hkc : k ≤ wc := by omega
  have hk60 : Hid (k ≤ 60) := by show k ≤ 60; omega
  have hrl := hide (fun X (hX : Below w.heap.size w X) => RdS.take (RdS.below rl hX) (n := k) (c := wc) rfl (by omega) hkc hwm)
  obtain ⟨l, hl⟩ : ∃ l, l = ws.take k := ⟨_, rfl⟩
  have hll : Hid (l.length = k) := by show l.length = k; rw [hl, List.length_take]; omega
  rw [← hl] at hrl
  obtain ⟨n, hn⟩ : ∃ n, n = ws.length := ⟨_, rfl⟩
  rw [← hn] at e1 ⊢
  clear rg rl hal ham htl htm hwl hwm hk hl hn
  unfold gameVal at cG ⊢
  go_enter Tryz.func8, Tryz.ntmps8
  go_upto_region 1 with (fail)
  obtain ⟨W, hW⟩ : ∃ W, W = (w.alloc (Obj.cells #[.string g.name, .int .i64 g.kind, .int .i64 g.price, .int .i64 g.main, .int .i64 g.of, .int .i64 g.bonus, .int .i64 g.bonusOf, .int .i64 g.extra, .int .i64 g.draws, .int .i64 g.system, .int .i64 g.days, .int .i64 g.at_, .int .i64 g.close, .int .i64 g.cancel, .int .i64 g.expiry, .int .i64 g.pool, .int .i64 g.reserve, .int .i64 g.round, .int .i64 g.cap, .int .i64 g.rolls, (.slice aa ms.length ac), (.slice ta g.tiers.length tc)] 25)) := ⟨_, rfl⟩
  have bW : Below w.heap.size w W := by rw [hW]; exact Bel.al (Below.refl _ _) _
  have r0 : GameAt W (w.heap.size) g ((.slice aa ms.length ac)) ((.slice ta g.tiers.length tc)) := by rw [hW]; exact Row.new _ _ _
  have sW : w.heap.size < W.heap.size := by rw [hW]; simp
  rw [← hW]
  clear hW
  refine till_begin 7 (fun X => X.rangeAt w.heap.size 0 (gameCells g (.slice aa ms.length ac) (.slice ta g.tiers.length tc))) (by kernel_rfl) (Rng.at0 (Rng.cons r0.drew (Rng.nil _))) (fun hHeld => ?_)
  refine' till_take (i := 0) (oi := _) (v := _) rfl (by kernel_rfl) (by kernel_rfl) (by kernel_rfl) (by kernel_rfl) (fun _ _ _ h => h) (yieldsIf_load_mid (by first | (go_simp; done) | rfl) 25 (.tmp 2) rfl w.heap.size 0 rfl (gameCells g (.slice aa ms.length ac) (.slice ta g.tiers.length tc)) _ (fun X h => h) Tryz.underlying25 rfl (by kernel_rfl)) hHeld ?_
  try simp only [Act.put, List.setIfInBounds_toArray, List.set_cons_zero, List.set_cons_succ]
  refine' till_pure (i := 2) (oi := _) (v := .slice wa n wc) rfl (by kernel_rfl) (by kernel_rfl) (by kernel_rfl) (by kernel_rfl) (fun _ _ _ h => h) (Or.inl ⟨by first | (go_simp; done) | rfl, fun X _ => by go_simp⟩) hHeld ?_
  try simp only [Act.put, List.setIfInBounds_toArray, List.set_cons_zero, List.set_cons_succ]
  refine' till_pure (i := 3) (oi := _) (v := .slice wa n wc) rfl (by kernel_rfl) (by kernel_rfl) (by kernel_rfl) (by kernel_rfl) (fun _ _ _ h => h) (Or.inl ⟨by first | (go_simp; done) | rfl, fun X _ => by go_simp⟩) hHeld ?_
  try simp only [Act.put, List.setIfInBounds_toArray, List.set_cons_zero, List.set_cons_succ]
  refine' till_pure (i := 4) (oi := _) (v := .int .i64 (n : Int)) rfl (by kernel_rfl) (by kernel_rfl) (by kernel_rfl) (by kernel_rfl) (fun _ _ _ h => h) (Or.inl ⟨by first | (go_simp; done) | rfl, fun X _ => by go_simp⟩) hHeld ?_
  try simp only [Act.put, List.setIfInBounds_toArray, List.set_cons_zero, List.set_cons_succ]
  refine' till_pure (i := 5) (oi := _) (v := .int .i64 (k : Int)) rfl (by kernel_rfl) (by kernel_rfl) (by kernel_rfl) (by kernel_rfl) (fun _ _ _ h => h) (Or.inl ⟨by first | (go_simp; done) | rfl, fun X _ => by go_simp⟩) hHeld ?_
  try simp only [Act.put, List.setIfInBounds_toArray, List.set_cons_zero, List.set_cons_succ]
  refine' till_pure (i := 6) (oi := _) (v := .slice wa k wc) rfl (by kernel_rfl) (by kernel_rfl) (by kernel_rfl) (by kernel_rfl) (fun _ _ _ h => h) (Or.inl ⟨by first | (go_simp; done) | rfl, fun X _ => by refine run_cutS (.tmp 13) (.tmp 16) 34 rfl (by kernel_rfl) 3 (fun w => by kernel_rfl) wa n wc ?_ k ?_ hkc <;> go_simp⟩) hHeld ?_
  try simp only [Act.put, List.setIfInBounds_toArray, List.set_cons_zero, List.set_cons_succ]
  refine till_ready (rs := [1]) (by kernel_rfl) (by simp) ?_
  refine TillReady.cons (o := _) rfl (fun K hK => ?_) TillReady.nil
  go_simp
  refine (cG.out _ bW.drew).mono ?_
  rintro e w1 ⟨g1, av1, tv1, ms1, rfl, K1, hgt, hb1⟩
  go_wp2_with fail
  refine hK.out _ _ (fun j u hu => Bel.cellOf hb1 (hHeld j u hu)) (fun hHeld => ?_)
  clear hK K
  try simp only [Act.put, List.setIfInBounds_toArray, List.set_cons_zero, List.set_cons_succ]
  obtain ⟨aa1, ac1, rfl, -, -⟩ := (K1.now hb1 bW.drew).1.1.shape
  obtain ⟨ta1, tc1, rfl, htl, htm⟩ := (K1.now hb1 bW.drew).2.2.shape
  have r0 := Row.keep r0.drew hb1
  refine till_ready (rs := [7]) (by kernel_rfl) (by simp) ?_
  refine TillReady.last (o := _) rfl (by kernel_rfl) (fun K hK => ?_) TillReady.nil
  rw [if_pos (by first | rfl | (go_simp; done))]
  refine wp_store_row 25 _ _ rfl w.heap.size (gameCells g1 (.slice aa1 ms1.length ac1) (.slice ta1 g1.tiers.length tc1)).toArray rfl rfl 25 _ r0 (by kernel_rfl) rfl (gameCells_one ⟨_, _, _, rfl⟩ ⟨_, _, _, rfl⟩) ?_
  have rA := setRow_row (gameCells g1 (.slice aa1 ms1.length ac1) (.slice ta1 g1.tiers.length tc1)).toArray r0
  have gA := setRow_grown w1 w.heap.size (gameCells g1 (.slice aa1 ms1.length ac1) (.slice ta1 g1.tiers.length tc1)).toArray
  obtain ⟨A, hA⟩ : ∃ A, A = w1.setRow w.heap.size (gameCells g1 (.slice aa1 ms1.length ac1) (.slice ta1 g1.tiers.length tc1)).toArray := ⟨_, rfl⟩
  rw [← hA] at rA gA ⊢
  clear hA
  refine hK.out _ _ ?_
  clear hK K
  try simp only [Act.put, List.setIfInBounds_toArray, List.set_cons_zero, List.set_cons_succ]
  refine' till_late (i := 8) (oi := _) (v := .slice wa k wc) rfl (by kernel_rfl) (by kernel_rfl) (Or.inl ⟨by first | (go_simp; done) | rfl, fun X _ => by go_simp⟩) ?_
  try simp only [Act.put, List.setIfInBounds_toArray, List.set_cons_zero, List.set_cons_succ]
  refine till_done (by kernel_rfl) ?_ _
  go_simp
  have hsA := hide sW
  have bA : Below w.heap.size w A := (Bel.to bW.drew hb1).grown gA (Bel.to bW.drew hb1).size (fun q hq => by injection hq with hq; omega)
  have G1 : GameR A (.slice aa1 ms1.length ac1) (.slice ta1 g1.tiers.length tc1) ms1 g1 := K1 A bA (SameR.of gA (fun q hq => by injection hq with hq; have : W.drew.heap.size = W.heap.size := rfl; omega) (Nat.le_refl _))
  have rA2 : GameAt A w.heap.size g1 (.slice aa1 ms1.length ac1) (.slice ta1 g1.tiers.length tc1) := rA
  have hll2 := hrl.out A bA
  rw [show k = l.length from hll.out.symm] at hll2 e1 ⊢
  have cC := hide (wcounts_any g1 _ _ _ ms1 l A G1 hll2 (by omega))
  obtain ⟨tn, htn⟩ : ∃ n, n = g1.tiers.length := ⟨_, rfl⟩
  rw [← htn] at cC rA2 hgt ⊢
  unfold gameVal at cC
  have hk60 : Hid (l.length ≤ 60) := by show l.length ≤ 60; rw [hll.out]; exact hk60.out
  obtain ⟨m, hm⟩ : ∃ m, m = l.length := ⟨_, rfl⟩
  rw [← hm] at cC hk60 hll2 ⊢
  have hrl2 : Hid (∀ X, Below w.heap.size w X → WinsR X (.slice wa m wc) l) := by
    intro X hX
    have h9 := hrl.out X hX
    rw [show k = m by rw [hm]; exact hll.out.symm] at h9
    exact h9
  replace hm := hide hm
  replace htn := hide htn
  clear hHeld rA gA K1 hb1 r0 bW sW G1 hll2 hll hrl e1 hkc cG
  go_wp2_with (first | (refine wpList_load_row rfl 25 _ rfl _ rfl _ _ _ _ rA2 Tryz.underlying25 rfl (by kernel_rfl) ?_) | fail)
  refine cC.out.mono ?_
  rintro e w2 ⟨u2, rfl, rU, hb2⟩
  have hul : (cntGo tn l).length = tn := cntGo_len _ _
  obtain ⟨ua, uc, rfl, huc, hum, -⟩ := Rd.form rU
  rw [hul] at rU huc ⊢
  have hb2A := Bel.to bA hb2
  have rA3 := Row.keep rA2 hb2
  have x21 : w2.cell? ⟨w.heap.size, 21, none⟩ = some (.slice ta1 tn tc1) := GameAt.tiers rA3
  have hne : ((tn : Int) != (tn : Int)) = false := by simp
  have htn14 : (tn : Int) ≤ 14 := by omega
  have hm60 : (m : Int) ≤ 60 := by have : m ≤ 60 := hk60.out; omega
  have rUh := hide (fun X (hX : Below w2.heap.size w2 X) => rU.below hX)
  clear rA2 rA3 cC rU huc hum hul bA hb2
  go_wp2
  go_loopg [6, 7, 8, 10, 29, 34] tn (fun gh v6 _ _ _ t29 _ wr => ∃ (t : Nat), gh = tn - t ∧ t ≤ tn ∧ v6 = .int .i64 (cntSum l t : Int) ∧ t29 = .int .i64 (t : Int) ∧ Hid (Below w2.heap.size w2 wr))
  case atStart => exact ⟨0, rfl, Nat.zero_le _, rfl, rfl, Below.refl _ _⟩
  case round =>
    obtain ⟨wo, hwo⟩ : ∃ wo, wo = wr := ⟨_, rfl⟩
    subst hwo
    obtain ⟨t, hgh, ht, rfl, rfl, hB⟩ := hrel
    replace hgh := hide hgh
    have hsl : cntSum l t ≤ m := by rw [hm.out]; exact cntSum_le _ _
    by_cases hlt : t < tn
    · have hlt2 := hide hlt
      obtain ⟨S, hS⟩ : ∃ S, S = cntSum l t := ⟨_, rfl⟩
      rw [← hS] at hsl ⊢
      replace hS := hide hS
      have i1 : (0 : Int) ≤ (t : Int) := by omega
      have i2 : (t : Int) < (tn : Int) := by omega
      go_wp2
      go_loopg [8, 10, 34] m (fun gh2 v8 _ t34 wr => ∃ (i : Nat), gh2 = m - i ∧ i ≤ m ∧ v8 = .int .i64 (cntT t (l.take i) : Int) ∧ t34 = .int .i64 (i : Int) ∧ Hid (Below w2.heap.size w2 wr))
      case atStart => exact ⟨0, rfl, Nat.zero_le _, rfl, rfl, hB⟩
      case round =>
        clear hB
        obtain ⟨i, hgh2, hi, rfl, rfl, hB⟩ := hrel
        replace hgh2 := hide hgh2
        by_cases hil : i < m
        · have hil2 := hide hil
          have hill : i < l.length := by rw [← hm.out]; exact hil
          obtain ⟨b, off, rfl, hbb, hcell⟩ := (hrl2.out wr (Bel.to hb2A hB.out)).at_ hill
          obtain ⟨x, hx⟩ : ∃ x, x = l[i] := ⟨_, rfl⟩
          have hxi : l[i]? = some x := by rw [hx]; exact List.getElem?_eq_getElem hill
          have hrange : wr.rangeAt b (off + i * 3) (winCells x) := fun j u hu => hcell i x hxi j u hu
          have hsn : cntT t (l.take (i + 1)) = cntT t (l.take i) + if x.tier = (t : Int) then 1 else 0 := by rw [List.take_succ_eq_append_getElem hill, ← hx, cntT_snoc]
          have hle : cntT t (l.take i) ≤ i := Nat.le_trans (cntT_le _ _) (by rw [List.length_take]; omega)
          obtain ⟨c, hc⟩ : ∃ c, c = cntT t (l.take i) := ⟨_, rfl⟩
          rw [← hc] at hsn hle ⊢
          clear hcell hx hxi hc
          obtain ⟨x1, x2, x3⟩ := x
          have hthere := hide (show (wr.alloc (.cells #[.int .i64 0, .int .i64 0, .int .i64 0] 46)).there wr.heap.size 0 3 from Row.there (Row.newOf (cs := [.int .i64 0, .int .i64 0, .int .i64 0]) _ rfl))
          have j1 : (0 : Int) ≤ (i : Int) := by omega
          have j2 : (i : Int) < (m : Int) := by omega
          unfold winCells at hrange
          simp only [] at hrange hsn
          replace hsn := hide hsn
          go_upto_region 13 with (first | (refine wpList_load_mid rfl 46 _ rfl b (off + i * 3) rfl [.int .i64 x1, .int .i64 x2, .int .i64 x3] _ hrange Tryz.underlying46 rfl (by kernel_rfl) ?_) | (refine wpList_store_mid rfl 46 _ _ rfl wr.heap.size 0 _ rfl rfl hthere.out (by kernel_rfl) (by rfl) ?_) | fail)
          obtain ⟨X1, hX1⟩ : ∃ X1, X1 = wr.alloc (.cells #[.int .i64 x1, .int .i64 x2, .int .i64 x3] 46) := ⟨_, rfl⟩
          have b1 : Below wr.heap.size wr X1 := by rw [hX1]; exact Bel.al (Below.refl _ _) _
          have p1 : Row X1 wr.heap.size 46 [.int .i64 x1, .int .i64 x2, .int .i64 x3] := by rw [hX1]; exact Row.newOf _ rfl
          rw [← hX1]
          clear hX1 hthere hrange
          have c2 : X1.cell? ⟨wr.heap.size, 2, none⟩ = some (.int .i64 x3) := (p1.cell? 2).trans rfl
          have hB1 := hide (Bel.to hB.out b1)
          clear p1 b1 hB
          by_cases he : x3 = (t : Int)
          · have g1 : (x3 == (t : Int)) = true := by simpa using he
            have hsn2 := hsn.out
            rw [if_pos he] at hsn2
            replace hsn2 := hide hsn2
            replace he := hide he
            go_wp2
            go_roundg (m - (i + 1))
            case measure => have := hgh2.out; have := hil2.out; omega
            case rel => exact ⟨i + 1, rfl, by have := hil2.out; omega, by rw [hsn2.out]; go_num, by go_num, hB1⟩
          · have g1 : (x3 == (t : Int)) = false := by simpa using he
            have hsn2 := hsn.out
            rw [if_neg he] at hsn2
            replace hsn2 := hide hsn2
            replace he := hide he
            go_wp2
            go_roundg (m - (i + 1))
            case measure => have := hgh2.out; have := hil2.out; omega
            case rel => exact ⟨i + 1, rfl, by have := hil2.out; omega, by rw [hsn2.out]; rfl, by go_num, hB1⟩
        · have him : i = l.length := by have := hm.out; omega
          have hfull : cntT t (l.take i) = cntT t l := by rw [him, List.take_length]
          rw [hfull]
          have hat := cntGo_at tn t l hlt2.out
          obtain ⟨b, off, rfl, hbb, hcell⟩ := (rUh.out wr hB.out).at_ (k := t) (by rw [cntGo_len]; exact hlt2.out)
          have ct : wr.cell? ⟨b, off + t, none⟩ = some (.int .i64 (cntT t l : Int)) := by
            have h8 := hcell t (by rw [cntGo_len]; exact hlt2.out)
            rw [h8]
            have h7 := hat
            rw [List.getElem?_eq_getElem (by rw [cntGo_len]; exact hlt2.out)] at h7
            injection h7 with h7
            rw [h7]
          have hcs : cntSum l (t + 1) = S + cntT t l := by rw [hS.out]; rfl
          have hct : cntT t l ≤ m := by rw [hm.out]; exact cntT_le _ _
          obtain ⟨c, hc⟩ : ∃ c, c = cntT t l := ⟨_, rfl⟩
          rw [← hc] at ct hcs hct ⊢
          have j2 : ¬ (i : Int) < (m : Int) := by have := hm.out; omega
          have g9 : ((c : Int) != (c : Int)) = false := by simp
          have hwr : IntKind.i64.wrap ((S : Int) + (c : Int)) = ((S + c : Nat) : Int) := by rw [IntWalk.i64_in _ (by omega)]; omega
          replace hcs := hide hcs
          replace him := hide him
          clear hat hcell hc hfull
          go_wp2
          go_roundg (tn - (t + 1))
          case measure => have := hgh.out; have := hlt2.out; omega
          case rel => exact ⟨t + 1, rfl, by have := hlt2.out; omega, by rw [hcs.out]; go_num, by go_num, hB⟩
    · have hT : t = tn := by omega
      have hle9 : (cntSum l t : Int) ≤ (m : Int) := by omega
      obtain ⟨S, hS⟩ : ∃ S, S = cntSum l t := ⟨_, rfl⟩
      rw [← hS] at hle9 hsl ⊢
      have i2 : ¬ (t : Int) < (tn : Int) := by omega
      have g9 : decide ((S : Int) ≤ (m : Int)) = true := decide_eq_true hle9
      replace hT := hide hT
      replace hS := hide hS
      clear x21
      go_wp2_with fail
      refine (works34_any _).mono ?_
      rintro e w9 ⟨rfl, hb9⟩
      go_wp2
      go_ret
      exact ⟨rfl, Bel.to (Bel.to hb2A hB.out) hb9⟩
end Go.Proofs.YtfggjlekcdpmmaaGreat
end

section
/- WinnerCounts: for every input the Go function lotterylaw34.WinnerCounts returns true, and each argument reads afterwards as before. Conditions: none. -/
namespace Go.Proofs.YtfggjlekcdpmmaaGreat.winnerCounts
open Go.ChangeShapes Go.WideShapes Go.ChangeAt Go.RowKit
set_option linter.unusedVariables false

theorem own : ownKnob Tryz.prog.godebug = none := by kernel_rfl
theorem laidOut : laidOutB Tryz.prog = true := by kernel_rfl

set_option maxRecDepth 100000 in
theorem lifted (os : Os) (started : os.Started) (H : Type) (enc : TypeId × Value → H) :
    ReturnsInHanded {} Tryz.checked os 8 .any (Rows.winnerCountsSpec.pre6 enc Tryz.prog Tryz.f8 Rows.winnerCountsRow.domain false) (Rows.winnerCountsSpec.post enc Tryz.prog Tryz.f8 false true false false) := by
  refine returnsInHanded_of_change (C := Tryz.checked) own started (by kernel_rfl) Tryz.func8
    (ChangeSpec.witness6 (enc := enc) (C := Tryz.checked) false ⟨#[], #[.agg #[.string ⟨#[]⟩, .int .i64 0, .int .i64 0, .int .i64 0, .int .i64 0, .int .i64 0, .int .i64 0, .int .i64 0, .int .i64 0, .int .i64 0, .int .i64 0, .int .i64 0, .int .i64 0, .int .i64 0, .int .i64 0, .int .i64 0, .int .i64 0, .int .i64 0, .int .i64 0, .int .i64 0, .slice none 0 0, .slice none 0 0], .slice none 0 0], []⟩ 8 (by kernel_rfl) (by kernel_rfl) (by kernel_rfl) (by kernel_rfl)) ?_
  intro W base args ds gs before hval0 hW hcnd _
  have hval : ∀ (j : Nat) t v, Tryz.f8.params[j]? = some t → args[j]? = some v → Value.okWide Tryz.prog W .any base t v := hval0
  have hW' := hW
  obtain ⟨p, q, hA0, hV, rfl, hfz, hnd⟩ := hW
  have hA : DataW.TrodAll enc Tryz.prog W 0 (fun _ => true) true Tryz.f8.params.toList args.toList ds p := hA0
  rw [Tryz.params8] at hA hval
  obtain ⟨v0, vs0, d0, ds0, p0, q0, hargs, rfl, rfl, h0, r0⟩ := trodAll_cons hA
  obtain ⟨v1, vs1, d1, ds1, p1, q1, rfl, rfl, rfl, h1, r1⟩ := trodAll_cons r0
  obtain ⟨rfl, rfl, rfl⟩ := trodAll_nil r1
  obtain rfl : args = #[v0, v1] := by cases args; simp_all
  obtain ⟨rfl, rfl⟩ := trodVars_none hV
  obtain ⟨cs0, rfl, hsz0⟩ := okWide_struct Tryz.underlying25 (hval 0 25 v0 rfl rfl)
  have k0 := h0
  have lt0 : ∀ x ∈ p0, x.block < W.heap.size := by obtain ⟨m, hm⟩ := k0; exact DataW.trod_lt m _ _ _ hm
  obtain ⟨g0, av0, tv0, ms0, eg0, rg0⟩ := game_trod h0
  rw [eg0] at k0 hW' ⊢
  obtain ⟨a1, len1, cap1, rfl⟩ := okWide_slice Tryz.underlying34 (hval 1 34 v1 rfl rfl)
  have k1 := h1
  have lt1 : ∀ x ∈ p1, x.block < W.heap.size := by obtain ⟨m, hm⟩ := k1; exact DataW.trod_lt m _ _ _ hm
  obtain ⟨ws1, rg1⟩ := wins_open h1
  clear hA0 hval0
  refine (counts34_walk g0 av0 tv0 ms0 _ ws1 W rg0 rg1).mono fun e W' ⟨he, bel⟩ => ?_
  subst he
  exact ⟨_, rfl, _, _, _, [], _, [], hW', trodAll_mk1 (shut_bool Tryz.underlying4 _), (trodAll_cons_mk (Below.trod laidOut (by kernel_rfl) (of_decide_eq_true (by kernel_rfl)) k0 bel lt0) (trodAll_cons_mk (Below.trod laidOut (by kernel_rfl) (of_decide_eq_true (by kernel_rfl)) k1 bel lt1) trodAll_mk0)), rfl, bel.frame _, fun h => by cases h⟩

theorem over : Rows.winnerCountsRow.holds Tryz.pinned (OpenSpec.ofChange Rows.winnerCountsSpec) :=
  OpenClaim.holds_of_wide 8 Tryz.f8 rfl rfl rfl rfl rfl rfl rfl ⟨rfl, rfl, rfl, rfl, rfl⟩ rfl rfl rfl rfl rfl (by kernel_rfl) Tryz.func8 (by kernel_rfl)
    (of_decide_eq_true (by kernel_rfl)) (by unfold Func.isWrapper; first | (rw [if_pos (by decide +kernel)]; kernel_rfl) | (rw [if_neg (by decide +kernel)]; exact ⟨rfl, rfl⟩))
    (fun os started H enc _ => lifted os started H enc)

theorem proved : Rows.WinnerCountsSaid := over
#print axioms proved
end Go.Proofs.YtfggjlekcdpmmaaGreat.winnerCounts
end

/- WinnerEligible: for every input the Go function lotterylaw34.WinnerEligible returns true, and each argument reads afterwards as before. Conditions: none. -/
import Derived.Test.YtfggjlekcdpmmaaGreatRows
import Derived.WalkKit
import Derived.ProofKit
import Derived.OpenShut
import Derived.ChangeOld
import Derived.Below
import Derived.Test.YtfggjlekcdpmmaaGreatGWinB
import Derived.Test.YtfggjlekcdpmmaaGreatGWinC
import Derived.Test.YtfggjlekcdpmmaaGreatGTrod
import Derived.Test.YtfggjlekcdpmmaaGreatGTrodB

section
/- lotteryref34.Takes. Condition: ints. -/
open Go.RowKit
set_option linter.unusedVariables false
set_option linter.unusedSimpArgs false
namespace Go.Proofs.YtfggjlekcdpmmaaGreat

set_option maxHeartbeats 2000000 in
set_option maxRecDepth 100000 in
theorem takes34_any (m : TickM) (game : ByteArray) (draw : Int) (w : World) (h1 : InI m.d.first) (h2 : InI m.d.bet.draws) (h3 : InI draw) (hl : ∃ a n c, m.lv = .slice a n c) :
    Calls Tryz.prog 31 #[.agg m.cells.toArray, .string game, .int .i64 draw] w (BoolB (decide (m.d.game = game) && takesB m.d.first m.d.bet.draws draw) w) := by
  obtain ⟨⟨t1, gm, ⟨tl, t4, t5, t6⟩, t7, t8, t9, t10, t11, t12, t13, t14⟩, lv⟩ := m
  obtain ⟨l1, l2, l3, rfl⟩ := hl
  simp only [] at h1 h2 ⊢
  unfold TickM.cells
  simp only []
  obtain ⟨f0, f1⟩ := h1
  obtain ⟨d0, d1⟩ := h2
  obtain ⟨r0', r1'⟩ := h3
  by_cases hg : gm = game
  rotate_left
  · rw [decide_eq_false hg, Bool.false_and]
    have hnb := bytes_ne hg
    replace hg := hide hg
    go_enter Tryz.func31, Tryz.ntmps31
    go_upto_region 1 with (fail)
    obtain ⟨W, hW⟩ : ∃ W, W = (w.alloc (Obj.cells #[.string t1, .string gm, .slice l1 l2 l3, .bool t4, .int .i64 t5, .int .i64 t6, .string t7, .int .i64 t8, .int .i64 t9, .int .i64 t10, .int .i64 t11, .int .i64 t12, .int .i64 t13, .bool t14] 52)) := ⟨_, rfl⟩
    have bW : Below w.heap.size w W := by rw [hW]; exact Bel.al (Below.refl _ _) _
    have r0 : Row W ((w.heap.size)) 52 [.string t1, .string gm, .slice l1 l2 l3, .bool t4, .int .i64 t5, .int .i64 t6, .string t7, .int .i64 t8, .int .i64 t9, .int .i64 t10, .int .i64 t11, .int .i64 t12, .int .i64 t13, .bool t14] := by rw [hW]; exact Row.new _ _ _
    have sW : w.heap.size < W.heap.size := by rw [hW]; simp
    rw [← hW]
    clear hW
    have x1 : W.cell? ⟨w.heap.size, 1, none⟩ = some (.string gm) := (r0.cell? 1).trans rfl
    go_wp2
    go_ret
    exact ⟨rfl, bW⟩
  subst hg
  rw [decide_eq_true rfl, Bool.true_and]
  obtain ⟨P, hP⟩ : ∃ P, P = takesB t8 t5 draw := ⟨_, rfl⟩
  rw [← hP]
  unfold takesB at hP
  by_cases c1 : draw < t8
  · rw [decide_eq_false (by omega)] at hP
    have e1 : decide (draw < t8) = true := decide_eq_true c1
    subst hP
    go_enter Tryz.func31, Tryz.ntmps31
    go_upto_region 1 with (fail)
    obtain ⟨W, hW⟩ : ∃ W, W = (w.alloc (Obj.cells #[.string t1, .string gm, .slice l1 l2 l3, .bool t4, .int .i64 t5, .int .i64 t6, .string t7, .int .i64 t8, .int .i64 t9, .int .i64 t10, .int .i64 t11, .int .i64 t12, .int .i64 t13, .bool t14] 52)) := ⟨_, rfl⟩
    have bW : Below w.heap.size w W := by rw [hW]; exact Bel.al (Below.refl _ _) _
    have r0 : Row W ((w.heap.size)) 52 [.string t1, .string gm, .slice l1 l2 l3, .bool t4, .int .i64 t5, .int .i64 t6, .string t7, .int .i64 t8, .int .i64 t9, .int .i64 t10, .int .i64 t11, .int .i64 t12, .int .i64 t13, .bool t14] := by rw [hW]; exact Row.new _ _ _
    have sW : w.heap.size < W.heap.size := by rw [hW]; simp
    rw [← hW]
    clear hW
    have x1 : W.cell? ⟨w.heap.size, 1, none⟩ = some (.string gm) := (r0.cell? 1).trans rfl
    have x7 : W.cell? ⟨w.heap.size, 7, none⟩ = some (.int .i64 t8) := (r0.cell? 7).trans rfl
    go_wp2
    go_ret
    exact ⟨rfl, bW⟩
  · have e1 : decide (draw < t8) = false := decide_eq_false c1
    by_cases c2 : t5 < 1
    · rw [decide_eq_false (by omega)] at hP
      have e2 : decide (t5 < 1) = true := decide_eq_true c2
      subst hP
      go_enter Tryz.func31, Tryz.ntmps31
      go_upto_region 1 with (fail)
      obtain ⟨W, hW⟩ : ∃ W, W = (w.alloc (Obj.cells #[.string t1, .string gm, .slice l1 l2 l3, .bool t4, .int .i64 t5, .int .i64 t6, .string t7, .int .i64 t8, .int .i64 t9, .int .i64 t10, .int .i64 t11, .int .i64 t12, .int .i64 t13, .bool t14] 52)) := ⟨_, rfl⟩
      have bW : Below w.heap.size w W := by rw [hW]; exact Bel.al (Below.refl _ _) _
      have r0 : Row W ((w.heap.size)) 52 [.string t1, .string gm, .slice l1 l2 l3, .bool t4, .int .i64 t5, .int .i64 t6, .string t7, .int .i64 t8, .int .i64 t9, .int .i64 t10, .int .i64 t11, .int .i64 t12, .int .i64 t13, .bool t14] := by rw [hW]; exact Row.new _ _ _
      have sW : w.heap.size < W.heap.size := by rw [hW]; simp
      rw [← hW]
      clear hW
      have x1 : W.cell? ⟨w.heap.size, 1, none⟩ = some (.string gm) := (r0.cell? 1).trans rfl
      have x7 : W.cell? ⟨w.heap.size, 7, none⟩ = some (.int .i64 t8) := (r0.cell? 7).trans rfl
      have x4 : W.cell? ⟨w.heap.size, 4, none⟩ = some (.int .i64 t5) := (r0.cell? 4).trans rfl
      go_wp2
      go_ret
      exact ⟨rfl, bW⟩
    · have e2 : decide (t5 < 1) = false := decide_eq_false c2
      have hPe : P = decide (draw - t8 < t5) := by
        rw [hP]
        by_cases c3 : draw - t8 < t5
        · rw [decide_eq_true c3, decide_eq_true (by omega)]
        · rw [decide_eq_false c3, decide_eq_false (by omega)]
      clear hP
      replace hPe := hide hPe
      have hw9 : IntKind.u64.wrap (IntKind.u64.wrap draw - IntKind.u64.wrap t8) = draw - t8 := by
        rw [IntKind.wrap_u64, IntKind.wrap_u64, IntKind.wrap_u64]
        omega
      go_enter Tryz.func31, Tryz.ntmps31
      go_upto_region 1 with (fail)
      obtain ⟨W, hW⟩ : ∃ W, W = (w.alloc (Obj.cells #[.string t1, .string gm, .slice l1 l2 l3, .bool t4, .int .i64 t5, .int .i64 t6, .string t7, .int .i64 t8, .int .i64 t9, .int .i64 t10, .int .i64 t11, .int .i64 t12, .int .i64 t13, .bool t14] 52)) := ⟨_, rfl⟩
      have bW : Below w.heap.size w W := by rw [hW]; exact Bel.al (Below.refl _ _) _
      have r0 : Row W ((w.heap.size)) 52 [.string t1, .string gm, .slice l1 l2 l3, .bool t4, .int .i64 t5, .int .i64 t6, .string t7, .int .i64 t8, .int .i64 t9, .int .i64 t10, .int .i64 t11, .int .i64 t12, .int .i64 t13, .bool t14] := by rw [hW]; exact Row.new _ _ _
      have sW : w.heap.size < W.heap.size := by rw [hW]; simp
      rw [← hW]
      clear hW
      have x1 : W.cell? ⟨w.heap.size, 1, none⟩ = some (.string gm) := (r0.cell? 1).trans rfl
      have x7 : W.cell? ⟨w.heap.size, 7, none⟩ = some (.int .i64 t8) := (r0.cell? 7).trans rfl
      have x4 : W.cell? ⟨w.heap.size, 4, none⟩ = some (.int .i64 t5) := (r0.cell? 4).trans rfl
      go_wp2
      go_ret
      exact ⟨by rw [hPe.out]; rfl, bW⟩

/-- A guarded load out of the middle of a row, where the guard lets it by. -/
theorem wpList_load_mid_ifE {P : Program} {w : World} {ops : Array Oper} {rest : List Oper} {op : Oper} {a : Act} {Q : Exit → Act → World → Prop} (hgd : Region.wanted op (yielded ops a.tmps) = true) (ty : TypeId) (x : Operand) (ho : op.op = .load ty x)
    (b o : Nat) (hx : a.eval x = .pointer (some ⟨b, o, none⟩)) (cs : List Value) (d : TypeDesc) (hc : w.rangeAt b o cs)
    (hu : P.underlying ty = some d) (hd : d.isRow = true) (hi : (P.info? ty).map (·.size) = some cs.length)
    (h : wpList P ops Q rest (a.put op.dst (.agg cs.toArray)) w) : wpList P ops Q (op :: rest) a w :=
  wpList_step fun K hK => by rw [if_pos hgd]; exact wp_load_mid ty x ho b o hx cs d hc hu hd hi (hK _ _ h)

set_option maxHeartbeats 8000000 in
set_option maxRecDepth 100000 in
theorem religible_any (v : Value) (ms : List TickM) (game : ByteArray) (draw : Int) (w : World) (h : TicketsR w v ms) (hd : InI draw) (hs : ms.length ≤ 1000) :
    Calls Tryz.prog 17 #[v, .string game, .int .i64 draw] w (CloneP (eligP (ms.map (·.d)) game draw) w) := by
  obtain ⟨ts, hts⟩ : ∃ ts, ts = ms.map (·.d) := ⟨_, rfl⟩
  rw [← hts]
  obtain ⟨R, hR⟩ : ∃ R, R = eligP ts game draw := ⟨_, rfl⟩
  rw [← hR]
  obtain ⟨ao, cap, rfl, hle, hmax⟩ := h.1.shape
  have hlen : ms.length = ts.length := by rw [hts, List.length_map]
  obtain ⟨n, hn⟩ : ∃ n, n = ms.length := ⟨_, rfl⟩
  have hnm : n ≤ 1000 := by omega
  have hh := hide (fun X (hX : Below w.heap.size w X) => h.below hX)
  rw [← hn] at hh ⊢
  have hnh := hide hn
  replace hts := hide hts
  replace hR := hide hR
  replace hlen := hide hlen
  clear h hle hmax hn hs
  go_enter Tryz.func17, Tryz.ntmps17
  go_wp2
  go_loopg [7, 8] n (fun gh v7 t wr => ∃ (i : Nat) (E : List Int) (ea : Option Addr) (ec : Nat), gh = n - i ∧ i ≤ n ∧ t = .int .i64 (i : Int) ∧ v7 = .slice ea E.length ec ∧ E.length ≤ i ∧ Own I64 wr w.heap.size 3 (.slice ea E.length ec) E ∧ Hid (E = (eligGo (eligB game draw) (ts.take i) 0).map fun p => (p.1 : Int)) ∧ Below w.heap.size w wr)
  case atStart => exact ⟨0, [], none, 0, rfl, Nat.zero_le _, rfl, rfl, Nat.le_refl _, Own.nil _ _ _, rfl, Below.refl _ _⟩
  case round =>
    obtain ⟨i, E, ea, ec, hgh, hi, rfl, rfl, hEi, hown, hE, hB⟩ := hrel
    replace hgh := hide hgh
    by_cases hlt : i < n
    · have hlt2 := hide hlt
      have him : i < ms.length := by rw [← hnh.out]; exact hlt
      have hit : i < ts.length := by rw [← hlen.out]; exact him
      have hhw := hh.out wr hB
      obtain ⟨b, off, rfl, hbb, hcell⟩ := hhw.1.at_ him
      obtain ⟨m, hm⟩ : ∃ m, m = ms[i] := ⟨_, rfl⟩
      have hmi : ms[i]? = some m := by rw [hm]; exact List.getElem?_eq_getElem him
      have htm : ts[i] = m.d := by
        have h9 : ts[i]? = some m.d := by rw [hts.out, List.getElem?_map, hmi]; rfl
        rw [List.getElem?_eq_getElem hit] at h9
        injection h9
      have hR9 := hhw.2 m (by rw [hm]; exact List.getElem_mem him)
      have hsn := eligGo_snoc (eligB game draw) ts i hit
      rw [htm] at hsn
      have hE2 : (eligGo (eligB game draw) (ts.take (i + 1)) 0).map (fun p => (p.1 : Int)) = E ++ (if eligB game draw m.d then [(i : Int)] else []) := by
        rw [hsn, List.map_append, hE.out]
        split <;> rfl
      have hrange : wr.rangeAt b (off + i * 14) m.cells := fun j u hu => hcell i m hmi j u hu
      obtain ⟨hl9, hif, hid⟩ := hR9
      clear hcell hmi htm hsn hhw hm
      obtain ⟨⟨t1, gm, ⟨tl, t4, t5, t6⟩, t7, t8, t9, t10, t11, t12, t13, t14⟩, lv⟩ := m
      unfold TickM.cells at hrange
      simp only [] at hrange hl9 hif hid hE2
      obtain ⟨l1, l3, rfl, -, -⟩ := hl9.shape
      obtain ⟨l2, hl2⟩ : ∃ x, x = tl.length := ⟨_, rfl⟩
      rw [← hl2] at hrange
      clear hl9 hl2
      have i1 : (0 : Int) ≤ (i : Int) := by omega
      have i2 : (i : Int) < (n : Int) := by omega
      have c13 : wr.cell? ⟨b, off + i * 14 + 13, none⟩ = some (.bool t14) := hrange 13 _ rfl
      have hel : eligB game draw ⟨t1, gm, ⟨tl, t4, t5, t6⟩, t7, t8, t9, t10, t11, t12, t13, t14⟩ = (!t14 && (decide (gm = game) && takesB t8 t5 draw)) := by
        show (decide (gm = game) && !t14 && takesB t8 t5 draw) = _
        cases t14 <;> simp
      rw [hel] at hE2
      clear hel
      cases t14 with
      | true =>
        have hE3 : Hid (E = (eligGo (eligB game draw) (ts.take (i + 1)) 0).map fun p => (p.1 : Int)) := by show _ = _; rw [hE2]; simp
        clear hE2 hE hrange
        go_wp2
        go_roundg (n - (i + 1))
        case measure => have := hgh.out; have := hlt2.out; omega
        case rel => exact ⟨i + 1, E, ea, ec, rfl, by have := hlt2.out; omega, by go_num, rfl, by omega, hown, hE3, hB⟩
      | false =>
        have cT := takes34_any ⟨⟨t1, gm, ⟨tl, t4, t5, t6⟩, t7, t8, t9, t10, t11, t12, t13, false⟩, .slice l1 l2 l3⟩ game draw wr hif hid hd ⟨_, _, _, rfl⟩
        simp only [] at cT
        unfold TickM.cells at cT
        simp only [] at cT
        replace cT := hide cT
        obtain ⟨q, hq⟩ : ∃ q, q = (decide (gm = game) && takesB t8 t5 draw) := ⟨_, rfl⟩
        rw [← hq] at cT hE2
        clear hq hE
        cases q with
        | false =>
          have hE3 : Hid (E = (eligGo (eligB game draw) (ts.take (i + 1)) 0).map fun p => (p.1 : Int)) := by show _ = _; rw [hE2]; simp
          clear hE2
          go_wp2_with (first | ((refine wpList_load_mid_ifE ?_ 52 _ rfl b (off + i * 14) ?_ [.string t1, .string gm, .slice l1 l2 l3, .bool t4, .int .i64 t5, .int .i64 t6, .string t7, .int .i64 t8, .int .i64 t9, .int .i64 t10, .int .i64 t11, .int .i64 t12, .int .i64 t13, .bool false] _ hrange Tryz.underlying52 rfl (by kernel_rfl) ?_); (focus (first | rfl | (go_simp; done))); (focus (first | rfl | (go_simp; done)))) | fail)
          refine cT.out.mono ?_
          rintro e w2 ⟨rfl, hb2⟩
          have hown2 := hown.keep hb2
          have B2 := Bel.to hB hb2
          clear hown hB hb2 hrange
          go_wp2
          go_roundg (n - (i + 1))
          case measure => have := hgh.out; have := hlt2.out; omega
          case rel => exact ⟨i + 1, E, ea, ec, rfl, by have := hlt2.out; omega, by go_num, rfl, by omega, hown2, hE3, B2⟩
        | true =>
          have hE3 : Hid (E ++ [(i : Int)] = (eligGo (eligB game draw) (ts.take (i + 1)) 0).map fun p => (p.1 : Int)) := by show _ = _; rw [hE2]; simp
          clear hE2
          go_wp2_with (first | ((refine wpList_load_mid_ifE ?_ 52 _ rfl b (off + i * 14) ?_ [.string t1, .string gm, .slice l1 l2 l3, .bool t4, .int .i64 t5, .int .i64 t6, .string t7, .int .i64 t8, .int .i64 t9, .int .i64 t10, .int .i64 t11, .int .i64 t12, .int .i64 t13, .bool false] _ hrange Tryz.underlying52 rfl (by kernel_rfl) ?_); (focus (first | rfl | (go_simp; done))); (focus (first | rfl | (go_simp; done)))) | fail)
          refine cT.out.mono ?_
          rintro e w2 ⟨rfl, hb2⟩
          have hown1 := hown.keep hb2
          have B9 := Bel.to hB hb2
          clear hown hB hb2 hrange
          go_wp2_with (with_reducible refine wpList_append_rd _ rfl _ _ 27 rfl (V := I64) (fun _ => rfl) w.heap.size 3 (.int .i64 0) 8 Tryz.underlying27 infoInt rfl _ E rfl ?_ _ [(i : Int)] rfl ?_ ?_ ?_ ?_ ?_)
          case refine_1 => exact Own.alloc hown1 _
          case refine_2 => exact Rd.new [(i : Int)] rfl rfl (Nat.le_refl _) (by decide) rfl
          case refine_3 => simp; omega
          case refine_4 => simp; omega
          case refine_5 => have := B9.size; simp; omega
          intro v3 w3 hown3 hg3 hv3
          have B3 : Below w.heap.size w w3 := (Bel.al B9 _).grown hg3 (Bel.al B9 _).size (fun k hk => (hown1.lt k hk).1)
          obtain ⟨a3, c3, rfl⟩ := hown3.shape
          clear hg3 hv3 hown1
          go_wp2
          go_roundg (n - (i + 1))
          case measure => have := hgh.out; have := hlt2.out; omega
          case rel => exact ⟨i + 1, E ++ [(i : Int)], a3, c3, rfl, by have := hlt2.out; omega, by go_num, rfl, by simp; omega, hown3, hE3, B3⟩
    · have hin : i = ts.length := by have := hnh.out; have := hlen.out; omega
      have hE2 := hE.out
      rw [hin, List.take_length] at hE2
      have hER : E = R := hE2.trans hR.out.symm
      subst hER
      replace hin := hide hin
      have i2 : ¬ (i : Int) < (n : Int) := by omega
      clear hE hE2
      go_wp2
      go_ret
      exact ⟨_, rfl, hown, hB⟩
end Go.Proofs.YtfggjlekcdpmmaaGreat
end

section
/- lotterylaw34.WinnerEligible: the walk. No condition. -/
open Go.RowKit
set_option linter.unusedVariables false
set_option linter.unusedSimpArgs false
namespace Go.Proofs.YtfggjlekcdpmmaaGreat

set_option maxHeartbeats 16000000 in
set_option maxRecDepth 100000 in
theorem eligible34_walk (v : Value) (tm : List TickM) (game : ByteArray) (draw : Int) (w : World) (rt : TicketsR w v tm) (hin : InI draw) :
    Calls Tryz.prog 4 #[v, .string game, .int .i64 draw] w (BoolB true w) := by
  have cF := hide (fun X (hX : Below w.heap.size w X) => few34_any v tm 30 w X rt hX (by decide))
  obtain ⟨ka, kc, rfl, -, -⟩ := rt.1.shape
  obtain ⟨kn, hkn⟩ : ∃ n, n = tm.length := ⟨_, rfl⟩
  rw [← hkn] at cF ⊢
  obtain ⟨kg, hkg⟩ : ∃ k, k = min 40 game.size := ⟨_, rfl⟩
  have e0 : min ((game.size : Nat) : Int) 40 = (kg : Int) := by omega
  have m0 : kg ≤ game.size := by omega
  have bd : Below w.heap.size w w.drew := Below.drewSelf w
  clear rt hkn hkg
  go_enter Tryz.func4, Tryz.ntmps4
  go_upto_region 1 with (fail)
  refine wp_region_held_drew (S := fun _ => True) (by kernel_rfl) trivial (fun hHeld => ?_)
  refine' wpAnyH_take (i := 0) (oi := _) (v := .slice ka kn kc) rfl (by kernel_rfl) (by kernel_rfl) (by kernel_rfl) (fun _ _ _ h => h) (Or.inl ⟨by first | (go_simp; done) | rfl, fun X _ => by go_simp⟩) hHeld ?_
  try simp only [Act.put, List.setIfInBounds_toArray, List.set_cons_zero, List.set_cons_succ]
  refine' wpAnyH_take (i := 2) (oi := _) (v := .string game) rfl (by kernel_rfl) (by kernel_rfl) (by kernel_rfl) (fun _ _ _ h => h) (Or.inl ⟨by first | (go_simp; done) | rfl, fun X _ => by go_simp⟩) hHeld ?_
  try simp only [Act.put, List.setIfInBounds_toArray, List.set_cons_zero, List.set_cons_succ]
  refine' wpAnyH_take (i := 3) (oi := _) (v := .string game) rfl (by kernel_rfl) (by kernel_rfl) (by kernel_rfl) (fun _ _ _ h => h) (Or.inl ⟨by first | (go_simp; done) | rfl, fun X _ => by go_simp⟩) hHeld ?_
  try simp only [Act.put, List.setIfInBounds_toArray, List.set_cons_zero, List.set_cons_succ]
  refine' wpAnyH_take (i := 4) (oi := _) (v := .int .i64 (game.size : Int)) rfl (by kernel_rfl) (by kernel_rfl) (by kernel_rfl) (fun _ _ _ h => h) (Or.inl ⟨by first | (go_simp; done) | rfl, fun X _ => by go_simp⟩) hHeld ?_
  try simp only [Act.put, List.setIfInBounds_toArray, List.set_cons_zero, List.set_cons_succ]
  refine' wpAnyH_take (i := 5) (oi := _) (v := .int .i64 (kg : Int)) rfl (by kernel_rfl) (by kernel_rfl) (by kernel_rfl) (fun _ _ _ h => h) (Or.inl ⟨by first | (go_simp; done) | rfl, fun X _ => by go_simp⟩) hHeld ?_
  try simp only [Act.put, List.setIfInBounds_toArray, List.set_cons_zero, List.set_cons_succ]
  refine' wpAnyH_take (i := 6) (oi := _) (v := .string (game.extract 0 kg)) rfl (by kernel_rfl) (by kernel_rfl) (by kernel_rfl) (fun _ _ _ h => h) (Or.inl ⟨by first | (go_simp; done) | rfl, fun X _ => by go_simp⟩) hHeld ?_
  try simp only [Act.put, List.setIfInBounds_toArray, List.set_cons_zero, List.set_cons_succ]
  refine wpAnyH_ready (rs := [1]) (by kernel_rfl) (by simp) ?_
  refine AllReadyH.cons (o := _) rfl (fun K hK => ?_) AllReadyH.nil
  go_simp
  refine (cF.out _ bd).mono ?_
  rintro e w2 ⟨u2, tm1, rfl, K2, htm, hb2⟩
  obtain ⟨ka1, kc1, rfl, -, -⟩ := (K2.now hb2 bd).1.shape
  go_wp2_with fail
  refine hK.out _ _ (trivial) (fun hHeld => ?_)
  clear hK K
  try simp only [Act.put, List.setIfInBounds_toArray, List.set_cons_zero, List.set_cons_succ]
  refine' wpAnyH_take (i := 7) (oi := _) (v := .slice ka1 tm1.length kc1) rfl (by kernel_rfl) (by kernel_rfl) (by kernel_rfl) (fun _ _ _ h => h) (Or.inl ⟨by first | (go_simp; done) | rfl, fun X _ => by go_simp⟩) hHeld ?_
  try simp only [Act.put, List.setIfInBounds_toArray, List.set_cons_zero, List.set_cons_succ]
  refine' wpAnyH_take (i := 8) (oi := _) (v := .string (game.extract 0 kg)) rfl (by kernel_rfl) (by kernel_rfl) (by kernel_rfl) (fun _ _ _ h => h) (Or.inl ⟨by first | (go_simp; done) | rfl, fun X _ => by go_simp⟩) hHeld ?_
  try simp only [Act.put, List.setIfInBounds_toArray, List.set_cons_zero, List.set_cons_succ]
  refine wpAnyH_done (by kernel_rfl) ?_ _
  go_simp
  clear hHeld
  have hT := K2 w2 (Bel.to bd hb2) (SameR.refl _ _)
  have B2 := hide (Bel.to bd hb2)
  obtain ⟨G, hG⟩ : ∃ G, G = game.extract 0 kg := ⟨_, rfl⟩
  rw [← hG]
  obtain ⟨N, hN⟩ : ∃ N, N = tm1.length := ⟨_, rfl⟩
  have c1 := hide (eligible_any _ tm1 G draw w2 hT hin (by omega))
  have c2 := hide (fun X (hX : Below w2.heap.size w2 X) => religible_any _ tm1 G draw X (hT.below hX) hin (by omega))
  rw [← hN] at c1 c2 ⊢
  obtain ⟨R, hR⟩ : ∃ R, R = eligP (tm1.map (·.d)) G draw := ⟨_, rfl⟩
  rw [← hR] at c1 c2
  have hRl : R.length ≤ 30 := by rw [hR]; unfold eligP; rw [List.length_map]; have h9 := eligGo_len (eligB G draw) (tm1.map (·.d)) 0; rw [List.length_map] at h9; unfold eligT; omega
  clear hT K2 hb2 bd hG hN hR htm cF e0 m0
  go_wp2_with fail
  refine c1.out.mono ?_
  rintro e w3 ⟨u3, rfl, o3, hb3⟩
  have r3 := o3.rd
  obtain ⟨aa, ac, rfl, -, -, -⟩ := Rd.form r3
  go_wp2_with fail
  refine (c2.out w3 hb3).mono ?_
  rintro e w4 ⟨u4, rfl, o4, hb4⟩
  have r4 := o4.rd
  obtain ⟨ab, bc, rfl, -, -, -⟩ := Rd.form r4
  have r3a := hide (r3.below hb4)
  have r4a := hide r4
  have B4 := hide (Bel.to (Bel.to B2.out hb3) hb4)
  obtain ⟨n, hn⟩ : ∃ n, n = R.length := ⟨_, rfl⟩
  rw [← hn] at r3a r4a ⊢
  have hn30 : (n : Int) ≤ 30 := by omega
  have hne : ((n : Int) != (n : Int)) = false := by simp
  replace hn := hide hn
  clear r3 r4 o3 o4 hb3 hb4 c1 c2 hRl
  go_wp2
  go_loopg [9, 32] n (fun gh _ t32 wr => ∃ (k d : Nat), gh = n - k ∧ k ≤ n ∧ t32 = .int .i64 (k : Int) ∧ wr = w4.drewN d)
  case atStart => exact ⟨0, 0, rfl, Nat.zero_le _, rfl, rfl⟩
  case round =>
    obtain ⟨k, d, hgh, hk, rfl, rfl⟩ := hrel
    replace hgh := hide hgh
    by_cases hlt : k < n
    · have hlt2 := hide hlt
      have hkR : k < R.length := by rw [← hn.out]; exact hlt
      obtain ⟨ba, oa, rfl, hba, hca⟩ := r3a.out.at_ hkR
      obtain ⟨bb, ob, rfl, hbb, hcb⟩ := r4a.out.at_ hkR
      obtain ⟨x, hx⟩ : ∃ x, x = R[k] := ⟨_, rfl⟩
      have ca : (w4.drewN d).drew.cell? ⟨ba, oa + k, none⟩ = some (.int .i64 x) := by rw [hx]; exact hca k hkR
      have cb : (w4.drewN d).drew.cell? ⟨bb, ob + k, none⟩ = some (.int .i64 x) := by rw [hx]; exact hcb k hkR
      have i1 : (0 : Int) ≤ (k : Int) := by omega
      have i2 : (k : Int) < (n : Int) := by omega
      have g9 : ((x : Int) != x) = false := by simp
      clear hca hcb hx
      go_upto_region 8 with (fail)
      refine wp_region_held_drew (S := fun X => X.cell? ⟨ba, oa + k, none⟩ = some (.int .i64 x) ∧ X.cell? ⟨bb, ob + k, none⟩ = some (.int .i64 x)) (by kernel_rfl) (⟨ca, cb⟩) (fun hHeld => ?_)
      refine' wpAnyH_take (i := 0) (oi := _) (v := .slice (some ⟨ba, oa, none⟩) n ac) rfl (by kernel_rfl) (by kernel_rfl) (by kernel_rfl) (fun _ _ _ h => h) (Or.inl ⟨by first | (go_simp; done) | rfl, fun X _ => by go_simp⟩) hHeld ?_
      try simp only [Act.put, List.setIfInBounds_toArray, List.set_cons_zero, List.set_cons_succ]
      refine' wpAnyH_take (i := 1) (oi := _) (v := .int .i64 (k : Int)) rfl (by kernel_rfl) (by kernel_rfl) (by kernel_rfl) (fun _ _ _ h => h) (Or.inl ⟨by first | (go_simp; done) | rfl, fun X _ => by go_simp⟩) hHeld ?_
      try simp only [Act.put, List.setIfInBounds_toArray, List.set_cons_zero, List.set_cons_succ]
      refine' wpAnyH_take (i := 2) (oi := _) (v := .pointer (some ⟨ba, oa + k, none⟩)) rfl (by kernel_rfl) (by kernel_rfl) (by kernel_rfl) (fun _ _ _ h => h) (Or.inl ⟨by first | (go_simp; done) | rfl, fun X _ => by go_simp⟩) hHeld ?_
      try simp only [Act.put, List.setIfInBounds_toArray, List.set_cons_zero, List.set_cons_succ]
      refine' wpAnyH_take (i := 3) (oi := _) (v := .int .i64 x) rfl (by kernel_rfl) (by kernel_rfl) (by kernel_rfl) (fun _ _ _ h => h) (Or.inl ⟨by first | (go_simp; done) | rfl, fun X hX => by have cX := hX.1; go_simp⟩) hHeld ?_
      try simp only [Act.put, List.setIfInBounds_toArray, List.set_cons_zero, List.set_cons_succ]
      refine' wpAnyH_take (i := 4) (oi := _) (v := .slice (some ⟨bb, ob, none⟩) n bc) rfl (by kernel_rfl) (by kernel_rfl) (by kernel_rfl) (fun _ _ _ h => h) (Or.inl ⟨by first | (go_simp; done) | rfl, fun X _ => by go_simp⟩) hHeld ?_
      try simp only [Act.put, List.setIfInBounds_toArray, List.set_cons_zero, List.set_cons_succ]
      refine' wpAnyH_take (i := 5) (oi := _) (v := .int .i64 (k : Int)) rfl (by kernel_rfl) (by kernel_rfl) (by kernel_rfl) (fun _ _ _ h => h) (Or.inl ⟨by first | (go_simp; done) | rfl, fun X _ => by go_simp⟩) hHeld ?_
      try simp only [Act.put, List.setIfInBounds_toArray, List.set_cons_zero, List.set_cons_succ]
      refine' wpAnyH_take (i := 6) (oi := _) (v := .pointer (some ⟨bb, ob + k, none⟩)) rfl (by kernel_rfl) (by kernel_rfl) (by kernel_rfl) (fun _ _ _ h => h) (Or.inl ⟨by first | (go_simp; done) | rfl, fun X _ => by go_simp⟩) hHeld ?_
      try simp only [Act.put, List.setIfInBounds_toArray, List.set_cons_zero, List.set_cons_succ]
      refine' wpAnyH_take (i := 7) (oi := _) (v := .int .i64 x) rfl (by kernel_rfl) (by kernel_rfl) (by kernel_rfl) (fun _ _ _ h => h) (Or.inl ⟨by first | (go_simp; done) | rfl, fun X hX => by have cX := hX.2; go_simp⟩) hHeld ?_
      try simp only [Act.put, List.setIfInBounds_toArray, List.set_cons_zero, List.set_cons_succ]
      refine' wpAnyH_take (i := 8) (oi := _) (v := .bool false) rfl (by kernel_rfl) (by kernel_rfl) (by kernel_rfl) (fun _ _ _ h => h) (Or.inl ⟨by first | (go_simp; done) | rfl, fun X _ => by go_simp⟩) hHeld ?_
      try simp only [Act.put, List.setIfInBounds_toArray, List.set_cons_zero, List.set_cons_succ]
      refine wpAnyH_done (by kernel_rfl) ?_ _
      go_simp
      clear hHeld
      go_wp2
      go_roundg (n - (k + 1))
      case measure => have := hgh.out; have := hlt2.out; omega
      case rel => exact ⟨k + 1, d + 1, rfl, by have := hlt2.out; omega, by go_num, rfl⟩
    · have i2 : ¬ (k : Int) < (n : Int) := by omega
      have B9 : Below w.heap.size w (w4.drewN d) := Bel.drN B4.out d
      go_wp2_with fail
      refine (works34_any _).mono ?_
      rintro e w99 ⟨rfl, hb99⟩
      go_wp2
      go_ret
      exact ⟨rfl, Bel.to (B9) hb99⟩
end Go.Proofs.YtfggjlekcdpmmaaGreat
end

section
/- WinnerEligible: for every input the Go function lotterylaw34.WinnerEligible returns true, and each argument reads afterwards as before. Conditions: none. -/
namespace Go.Proofs.YtfggjlekcdpmmaaGreat.winnerEligible
open Go.ChangeShapes Go.WideShapes Go.ChangeAt Go.RowKit
set_option linter.unusedVariables false

theorem own : ownKnob Tryz.prog.godebug = none := by kernel_rfl
theorem laidOut : laidOutB Tryz.prog = true := by kernel_rfl

set_option maxRecDepth 100000 in
theorem lifted (os : Os) (started : os.Started) (H : Type) (enc : TypeId × Value → H) :
    ReturnsInHanded {} Tryz.checked os 4 .any (Rows.winnerEligibleSpec.pre6 enc Tryz.prog Tryz.f4 Rows.winnerEligibleRow.domain false) (Rows.winnerEligibleSpec.post enc Tryz.prog Tryz.f4 false true false false) := by
  refine returnsInHanded_of_change (C := Tryz.checked) own started (by kernel_rfl) Tryz.func4
    (ChangeSpec.witness6 (enc := enc) (C := Tryz.checked) false ⟨#[], #[.slice none 0 0, .string ⟨#[]⟩, .int .i64 0], []⟩ 8 (by kernel_rfl) (by kernel_rfl) (by kernel_rfl) (by kernel_rfl)) ?_
  intro W base args ds gs before hval0 hW hcnd _
  have hval : ∀ (j : Nat) t v, Tryz.f4.params[j]? = some t → args[j]? = some v → Value.okWide Tryz.prog W .any base t v := hval0
  have hW' := hW
  obtain ⟨p, q, hA0, hV, rfl, hfz, hnd⟩ := hW
  have hA : DataW.TrodAll enc Tryz.prog W 0 (fun _ => true) true Tryz.f4.params.toList args.toList ds p := hA0
  rw [Tryz.params4] at hA hval
  obtain ⟨v0, vs0, d0, ds0, p0, q0, hargs, rfl, rfl, h0, r0⟩ := trodAll_cons hA
  obtain ⟨v1, vs1, d1, ds1, p1, q1, rfl, rfl, rfl, h1, r1⟩ := trodAll_cons r0
  obtain ⟨v2, vs2, d2, ds2, p2, q2, rfl, rfl, rfl, h2, r2⟩ := trodAll_cons r1
  obtain ⟨rfl, rfl, rfl⟩ := trodAll_nil r2
  obtain rfl : args = #[v0, v1, v2] := by cases args; simp_all
  obtain ⟨rfl, rfl⟩ := trodVars_none hV
  obtain ⟨a0, len0, cap0, rfl⟩ := okWide_slice Tryz.underlying26 (hval 0 26 v0 rfl rfl)
  have k0 := h0
  have lt0 : ∀ x ∈ p0, x.block < W.heap.size := by obtain ⟨m, hm⟩ := k0; exact DataW.trod_lt m _ _ _ hm
  obtain ⟨ms0, rg0⟩ := tickets_open h0
  obtain ⟨s1, rfl⟩ := okWide_string Tryz.underlying9 (hval 1 9 v1 rfl rfl)
  have k1 := h1
  have lt1 : ∀ x ∈ p1, x.block < W.heap.size := by obtain ⟨m, hm⟩ := k1; exact DataW.trod_lt m _ _ _ hm
  obtain ⟨a2, rfl, rfl, rfl, w2⟩ := open_int Tryz.underlying3 (hval 2 3 v2 rfl rfl) h2
  have b2 := bounds_i64 w2
  clear hA0 hval0
  refine (eligible34_walk _ ms0 s1 a2 W rg0 b2).mono fun e W' ⟨he, bel⟩ => ?_
  subst he
  exact ⟨_, rfl, _, _, _, [], _, [], hW', trodAll_mk1 (shut_bool Tryz.underlying4 _), (trodAll_cons_mk (Below.trod laidOut (by kernel_rfl) (of_decide_eq_true (by kernel_rfl)) k0 bel lt0) (trodAll_cons_mk (Below.trod laidOut (by kernel_rfl) (of_decide_eq_true (by kernel_rfl)) k1 bel lt1) (trodAll_cons_mk (shut_int Tryz.underlying3 w2) trodAll_mk0))), rfl, bel.frame _, fun h => by cases h⟩

theorem over : Rows.winnerEligibleRow.holds Tryz.pinned (OpenSpec.ofChange Rows.winnerEligibleSpec) :=
  OpenClaim.holds_of_wide 4 Tryz.f4 rfl rfl rfl rfl rfl rfl rfl ⟨rfl, rfl, rfl, rfl, rfl⟩ rfl rfl rfl rfl rfl (by kernel_rfl) Tryz.func4 (by kernel_rfl)
    (of_decide_eq_true (by kernel_rfl)) (by unfold Func.isWrapper; first | (rw [if_pos (by decide +kernel)]; kernel_rfl) | (rw [if_neg (by decide +kernel)]; exact ⟨rfl, rfl⟩))
    (fun os started H enc _ => lifted os started H enc)

theorem proved : Rows.WinnerEligibleSaid := over
#print axioms proved
end Go.Proofs.YtfggjlekcdpmmaaGreat.winnerEligible
end

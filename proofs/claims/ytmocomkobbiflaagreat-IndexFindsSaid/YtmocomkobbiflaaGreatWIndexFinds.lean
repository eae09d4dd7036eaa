/- IndexFinds: for every input the Go function lotterylaw33.IndexFinds returns true, and each argument reads afterwards as before. Conditions: none. -/
import Derived.BigQuiet
import Derived.Test.YtmocomkobbiflaaGreatRows
import Derived.WalkKit
import Derived.ProofKit
import Derived.OpenShut
import Derived.ChangeOld
import Derived.Below
import Derived.Test.YtmocomkobbiflaaGreatGTrod
import Derived.Test.YtmocomkobbiflaaGreatGIdxB
import Derived.Test.YtmocomkobbiflaaGreatGIdxC

section
/- lotterylaw33.few and tier. No condition. -/
open Go.RowKit
set_option linter.unusedVariables false
set_option linter.unusedSimpArgs false
namespace Go.Proofs.YtmocomkobbiflaaGreat

/-- Some truth value; true only if there are at most k. -/
def FewP (ms : List DoM) (k : Int) (w : World) (e : Ending) (w' : World) : Prop := ∃ b, e = .returned (.bool b) ∧ (b = true → (ms.length : Int) ≤ k) ∧ w = w'

set_option maxHeartbeats 4000000 in
set_option maxRecDepth 100000 in
theorem few33_any (v : Value) (ms : List DoM) (k : Int) (w : World) (h : DosR w v ms) :
    Calls Tryz.prog 12 #[v, .int .i64 k] w (FewP ms k w) := by
  have hh := hide h
  obtain ⟨ao, cap, rfl, h1, h2⟩ := RdS.shape h.1
  obtain ⟨n, hn⟩ : ∃ n, n = ms.length := ⟨_, rfl⟩
  have hn63 : (n : Int) ≤ 9223372036854775807 := by unfold maxLen at h2; omega
  rw [← hn] at hh ⊢
  replace hn := hide hn
  clear h h1 h2
  by_cases hk : k < (n : Int)
  · go_enter Tryz.func12, Tryz.ntmps12
    go_wp2
    go_ret
    exact ⟨_, rfl, (fun h => by cases h), rfl⟩
  · have hkh := hide hk
    go_enter Tryz.func12, Tryz.ntmps12
    go_wp2
    go_loopg [5] n (fun gh t wr => ∃ (i : Nat), gh = n - i ∧ i ≤ n ∧ t = .int .i64 (i : Int) ∧ w = wr)
    case atStart => exact ⟨0, rfl, Nat.zero_le _, rfl, rfl⟩
    case round =>
      obtain ⟨i, hgh, hi, rfl, rfl⟩ := hrel
      replace hgh := hide hgh
      by_cases hlt : i < n
      · have hlt2 := hide hlt
        have hil : i < ms.length := by rw [← hn.out]; exact hlt
        obtain ⟨b, off, rfl, hbb, hcell⟩ := hh.out.1.at_ hil
        obtain ⟨m, hm⟩ : ∃ m, m = ms[i] := ⟨_, rfl⟩
        have hmi : ms[i]? = some m := by rw [hm]; exact List.getElem?_eq_getElem hil
        have hd := hh.out.2 m (by rw [hm]; exact List.getElem_mem _)
        obtain ⟨⟨t, k2, ⟨la, lb⟩⟩, mv, bv⟩ := m
        obtain ⟨a1, a2, a3, rfl⟩ := hd.1.1.shape
        obtain ⟨b1, b2, b3, rfl⟩ := hd.1.2.shape
        have c2 : w.cell? ⟨b, off + i * 4 + 2, none⟩ = some (.slice a1 a2 a3) := hcell i _ hmi 2 _ rfl
        have c3 : w.cell? ⟨b, off + i * 4 + 2 + 1, none⟩ = some (.slice b1 b2 b3) := hcell i _ hmi 3 _ rfl
        have c4 : w.cell? ⟨b, off + i * 4 + 3, none⟩ = some (.slice b1 b2 b3) := hcell i _ hmi 3 _ rfl
        have i1 : (0 : Int) ≤ (i : Int) := by omega
        have i2 : (i : Int) < (n : Int) := by omega
        clear hcell hm hmi hd
        by_cases q1 : (30 : Int) < (a2 : Int)
        · go_wp2
          go_ret
          exact ⟨_, rfl, (fun h => by cases h), rfl⟩
        · by_cases q2 : (30 : Int) < (b2 : Int)
          · go_wp2
            go_ret
            exact ⟨_, rfl, (fun h => by cases h), rfl⟩
          · go_wp2
            go_roundg (n - (i + 1))
            case measure => have := hgh.out; have := hlt2.out; omega
            case rel => exact ⟨i + 1, rfl, by have := hlt2.out; omega, by (have := hlt2.out; go_num), rfl⟩
      · obtain rfl : n = i := by omega
        go_wp2
        go_ret
        exact ⟨_, rfl, (fun _ => by have := hkh.out; have := hn.out; omega), rfl⟩

set_option maxHeartbeats 4000000 in
set_option maxRecDepth 100000 in
theorem tier33_any (v : Value) (l : List WinD) (t k : Int) (w : World) (h : WinsR w v l) :
    Calls Tryz.prog 26 #[v, .int .i64 t, .int .i64 k] w (fun e w' => e = .returned (.int .i64 (tierOf t k l)) ∧ w = w') := by
  have hh := hide h
  obtain ⟨ao, cap, rfl, h1, h2⟩ := RdS.shape h
  obtain ⟨n, hn⟩ : ∃ n, n = l.length := ⟨_, rfl⟩
  have hn63 : (n : Int) ≤ 9223372036854775807 := by unfold maxLen at h2; omega
  rw [← hn] at hh ⊢
  replace hn := hide hn
  clear h h1 h2
  obtain ⟨R, hR⟩ : ∃ R, R = tierOf t k l := ⟨_, rfl⟩
  rw [← hR]
  replace hR := hide hR
  go_enter Tryz.func26, Tryz.ntmps26
  go_wp2
  go_loopg [7] n (fun gh s wr => ∃ (i : Nat), gh = n - i ∧ i ≤ n ∧ s = .int .i64 (i : Int) ∧ w = wr ∧ Hid (R = tierOf t k (l.drop i)))
  case atStart => exact ⟨0, rfl, Nat.zero_le _, rfl, rfl, by rw [List.drop_zero]; exact hR⟩
  case round =>
    clear hR
    obtain ⟨i, hgh, hi, rfl, rfl, hR⟩ := hrel
    replace hgh := hide hgh
    by_cases hlt : i < n
    · have hlt2 := hide hlt
      have hil : i < l.length := by rw [← hn.out]; exact hlt
      obtain ⟨b, off, rfl, hbb, hcell⟩ := hh.out.at_ hil
      obtain ⟨x, hx⟩ : ∃ x, x = l[i] := ⟨_, rfl⟩
      have hxi : l[i]? = some x := by rw [hx]; exact List.getElem?_eq_getElem hil
      have hdr : l.drop i = x :: l.drop (i + 1) := by rw [hx]; exact List.drop_eq_getElem_cons hil
      have hR2 := hR.out
      rw [hdr, tierOf] at hR2
      obtain ⟨x1, x2, x3⟩ := x
      have c0 : w.cell? ⟨b, off + i * 3, none⟩ = some (.int .i64 x1) := hcell i _ hxi 0 _ rfl
      have c1 : w.cell? ⟨b, off + i * 3 + 1, none⟩ = some (.int .i64 x2) := hcell i _ hxi 1 _ rfl
      have c2 : w.cell? ⟨b, off + i * 3 + 2, none⟩ = some (.int .i64 x3) := hcell i _ hxi 2 _ rfl
      have i1 : (0 : Int) ≤ (i : Int) := by omega
      have i2 : (i : Int) < (n : Int) := by omega
      clear hcell hx hxi hdr hR
      by_cases q1 : x1 = t
      · by_cases q2 : x2 = k
        · have hR3 := hide hR2
          clear hR2
          have g1 : (x1 == t) = true := by simpa using q1
          have g2 : (x2 == k) = true := by simpa using q2
          replace q1 := hide q1
          replace q2 := hide q2
          go_wp2
          go_ret
          have h9 := hR3.out
          rw [if_pos (by simp [keyW, q1.out, q2.out])] at h9
          exact ⟨by rw [h9]; rfl, rfl⟩
        · have hR3 : Hid (R = tierOf t k (l.drop (i + 1))) := by show R = _; rw [hR2, if_neg (by simp [keyW, q2])]
          have g1 : (x1 == t) = true := by simpa using q1
          have g2 : (x2 == k) = false := by simpa using q2
          replace q1 := hide q1
          replace q2 := hide q2
          clear hR2
          go_wp2
          go_roundg (n - (i + 1))
          case measure => have := hgh.out; have := hlt2.out; omega
          case rel => exact ⟨i + 1, rfl, by have := hlt2.out; omega, by (have := hlt2.out; go_num), rfl, hR3⟩
      · have hR3 : Hid (R = tierOf t k (l.drop (i + 1))) := by show R = _; rw [hR2, if_neg (by simp [keyW, q1])]
        have g1 : (x1 == t) = false := by simpa using q1
        replace q1 := hide q1
        clear hR2
        go_wp2
        go_roundg (n - (i + 1))
        case measure => have := hgh.out; have := hlt2.out; omega
        case rel => exact ⟨i + 1, rfl, by have := hlt2.out; omega, by (have := hlt2.out; go_num), rfl, hR3⟩
    · obtain rfl : n = i := by omega
      have hR3 : Hid (R = -1) := by
        show R = _
        rw [hR.out, List.drop_of_length_le (by rw [← hn.out]; exact Nat.le_refl _)]
        rfl
      clear hR
      go_wp2
      go_ret
      exact ⟨by rw [hR3.out]; rfl, rfl⟩
end Go.Proofs.YtmocomkobbiflaaGreat
end

section
/- lotterylaw33.IndexNobody: the walk. No condition. -/
open Go.RowKit
set_option linter.unusedVariables false
set_option linter.unusedSimpArgs false
namespace Go.Proofs.YtmocomkobbiflaaGreat

/-- A line to be added, as a value. -/
def doVal (d : EntD) (mv bv : Value) : Value := .agg #[.int .i64 d.ticket, .int .i64 d.line, mv, bv]
theorem winsQ_nil (g : GameD) (r : ResD) : winsQ g r [] = [] := by unfold winsQ; split <;> rfl

set_option maxHeartbeats 8000000 in
set_option maxRecDepth 100000 in
theorem nobody33_walk (g : GameD) (av tv : Value) (ms : List AddonM) (d : EntD) (dm db : Value) (mv bv xv : Value) (r : ResD) (w : World) (rg : GameR w av tv ms g) (rd : LineR w dm db d.l.1 d.l.2) (rr : ResR w mv bv xv r) (hs : r.serial.size ≤ 9223372036854775807) :
    Calls Tryz.prog 8 #[gameVal g av tv, doVal d dm db, resVal mv bv xv r] w (BoolB true w) := by
  have cA := hide (fun X => awake33_any X)
  have cW0 := hide (fun X (hX : Below w.heap.size w X) => iwins_nil mv bv xv r X (rr.below hX))
  have cC0 := hide (fun X (hX : Below w.heap.size w X) => icounts_nil mv bv xv r X (rr.below hX))
  have cA0 := hide (fun X => iadd_nil d.ticket d.line dm db X)
  have cL0 := hide (fun X => ilen_nil X)
  have cB := hide (fun X (hX : Below w.heap.size w X) (he : gameE g ≠ 0) => inew_bad g av tv ms X (rg.below hX) he)
  have cN := hide (fun X (hX : Below w.heap.size w X) (he : gameE g = 0) => inew_ok g av tv ms X (rg.below hX) he)
  have rrh := hide rr
  obtain ⟨aa, ac, rfl, hal, ham⟩ := rg.1.1.shape
  obtain ⟨ta, tc, rfl, htl, htm⟩ := rg.2.2.shape
  obtain ⟨an, han⟩ : ∃ an, an = ms.length := ⟨_, rfl⟩
  obtain ⟨tn, htn⟩ : ∃ tn, tn = g.tiers.length := ⟨_, rfl⟩
  rw [← han, ← htn] at cB cN ⊢
  obtain ⟨ma, mn, mc, rfl⟩ := rd.1.shape
  obtain ⟨ba, bn, bc, rfl⟩ := rd.2.shape
  obtain ⟨ra, rn, rc, rfl⟩ := rr.1.shape
  obtain ⟨sa, sn, sc, rfl⟩ := rr.2.1.shape
  obtain ⟨xa, xn, xc, rfl⟩ := rr.2.2.shape
  clear rg rd rr hal ham htl htm han htn
  unfold resVal at cW0 cC0
  unfold lineVal at cA0
  unfold gameVal at cB cN
  unfold gameVal doVal resVal
  by_cases hm : 30 < mn
  · have hm2 : (30 : Int) < (mn : Int) := by omega
    go_enter Tryz.func8, Tryz.ntmps8
    go_upto_region 1 with (fail)
    obtain ⟨W, hW⟩ : ∃ W, W = ((w.alloc (Obj.cells #[.string g.name, .int .i64 g.kind, .int .i64 g.price, .int .i64 g.main, .int .i64 g.of, .int .i64 g.bonus, .int .i64 g.bonusOf, .int .i64 g.extra, .int .i64 g.draws, .int .i64 g.system, .int .i64 g.days, .int .i64 g.at_, .int .i64 g.close, .int .i64 g.cancel, .int .i64 g.expiry, .int .i64 g.pool, .int .i64 g.reserve, .int .i64 g.round, .int .i64 g.cap, .int .i64 g.rolls, (.slice aa an ac), (.slice ta tn tc)] 25)).alloc (Obj.cells #[.int .i64 d.ticket, .int .i64 d.line, .slice ma mn mc, .slice ba bn bc] 43)).alloc (Obj.cells #[.slice ra rn rc, .slice sa sn sc, .slice xa xn xc, .int .i64 r.factor, .string r.serial] 29) := ⟨_, rfl⟩
    have bW : Below w.heap.size w W := by rw [hW]; exact Bel.al (Bel.al (Bel.al (Below.refl _ _) _) _) _
    have r0 : GameAt W w.heap.size g (.slice aa an ac) (.slice ta tn tc) := by rw [hW]; exact Row.alloc (Row.alloc (Row.new _ _ _) _) _
    have r1 : Row W (w.heap.size + 1) 43 [.int .i64 d.ticket, .int .i64 d.line, .slice ma mn mc, .slice ba bn bc] := by rw [hW]; exact Row.alloc (Row.at2 _ _ _ _) _
    have r2 : Row W (w.heap.size + 1 + 1) 29 [.slice ra rn rc, .slice sa sn sc, .slice xa xn xc, .int .i64 r.factor, .string r.serial] := by rw [hW]; exact Row.at3 _ _ _ _ _
    rw [← hW]
    clear hW
    have d2 : W.cell? ⟨w.heap.size + 1, 2, none⟩ = some (.slice ma mn mc) := (r1.cell? 2).trans rfl
    have d3 : W.cell? ⟨w.heap.size + 1, 3, none⟩ = some (.slice ba bn bc) := (r1.cell? 3).trans rfl

    go_wp2_with fail
    refine (cA.out _).mono ?_
    rintro e w1 ⟨rfl, hb⟩
    go_wp2
    go_ret
    exact ⟨rfl, Bel.to bW hb⟩
  by_cases hn : 30 < bn
  · have hm2 : ¬ (30 : Int) < (mn : Int) := by omega
    have hn2 : (30 : Int) < (bn : Int) := by omega
    go_enter Tryz.func8, Tryz.ntmps8
    go_upto_region 1 with (fail)
    obtain ⟨W, hW⟩ : ∃ W, W = ((w.alloc (Obj.cells #[.string g.name, .int .i64 g.kind, .int .i64 g.price, .int .i64 g.main, .int .i64 g.of, .int .i64 g.bonus, .int .i64 g.bonusOf, .int .i64 g.extra, .int .i64 g.draws, .int .i64 g.system, .int .i64 g.days, .int .i64 g.at_, .int .i64 g.close, .int .i64 g.cancel, .int .i64 g.expiry, .int .i64 g.pool, .int .i64 g.reserve, .int .i64 g.round, .int .i64 g.cap, .int .i64 g.rolls, (.slice aa an ac), (.slice ta tn tc)] 25)).alloc (Obj.cells #[.int .i64 d.ticket, .int .i64 d.line, .slice ma mn mc, .slice ba bn bc] 43)).alloc (Obj.cells #[.slice ra rn rc, .slice sa sn sc, .slice xa xn xc, .int .i64 r.factor, .string r.serial] 29) := ⟨_, rfl⟩
    have bW : Below w.heap.size w W := by rw [hW]; exact Bel.al (Bel.al (Bel.al (Below.refl _ _) _) _) _
    have r0 : GameAt W w.heap.size g (.slice aa an ac) (.slice ta tn tc) := by rw [hW]; exact Row.alloc (Row.alloc (Row.new _ _ _) _) _
    have r1 : Row W (w.heap.size + 1) 43 [.int .i64 d.ticket, .int .i64 d.line, .slice ma mn mc, .slice ba bn bc] := by rw [hW]; exact Row.alloc (Row.at2 _ _ _ _) _
    have r2 : Row W (w.heap.size + 1 + 1) 29 [.slice ra rn rc, .slice sa sn sc, .slice xa xn xc, .int .i64 r.factor, .string r.serial] := by rw [hW]; exact Row.at3 _ _ _ _ _
    rw [← hW]
    clear hW
    have d2 : W.cell? ⟨w.heap.size + 1, 2, none⟩ = some (.slice ma mn mc) := (r1.cell? 2).trans rfl
    have d3 : W.cell? ⟨w.heap.size + 1, 3, none⟩ = some (.slice ba bn bc) := (r1.cell? 3).trans rfl

    go_wp2_with fail
    refine (cA.out _).mono ?_
    rintro e w1 ⟨rfl, hb⟩
    go_wp2
    go_ret
    exact ⟨rfl, Bel.to bW hb⟩
  have hm2 : ¬ (30 : Int) < (mn : Int) := by omega
  have hn2 : ¬ (30 : Int) < (bn : Int) := by omega
  clear hm hn
  go_enter Tryz.func8, Tryz.ntmps8
  go_upto_region 1 with (fail)
  obtain ⟨W, hW⟩ : ∃ W, W = ((w.alloc (Obj.cells #[.string g.name, .int .i64 g.kind, .int .i64 g.price, .int .i64 g.main, .int .i64 g.of, .int .i64 g.bonus, .int .i64 g.bonusOf, .int .i64 g.extra, .int .i64 g.draws, .int .i64 g.system, .int .i64 g.days, .int .i64 g.at_, .int .i64 g.close, .int .i64 g.cancel, .int .i64 g.expiry, .int .i64 g.pool, .int .i64 g.reserve, .int .i64 g.round, .int .i64 g.cap, .int .i64 g.rolls, (.slice aa an ac), (.slice ta tn tc)] 25)).alloc (Obj.cells #[.int .i64 d.ticket, .int .i64 d.line, .slice ma mn mc, .slice ba bn bc] 43)).alloc (Obj.cells #[.slice ra rn rc, .slice sa sn sc, .slice xa xn xc, .int .i64 r.factor, .string r.serial] 29) := ⟨_, rfl⟩
  have bW : Below w.heap.size w W := by rw [hW]; exact Bel.al (Bel.al (Bel.al (Below.refl _ _) _) _) _
  have r0 : GameAt W w.heap.size g (.slice aa an ac) (.slice ta tn tc) := by rw [hW]; exact Row.alloc (Row.alloc (Row.new _ _ _) _) _
  have r1 : Row W (w.heap.size + 1) 43 [.int .i64 d.ticket, .int .i64 d.line, .slice ma mn mc, .slice ba bn bc] := by rw [hW]; exact Row.alloc (Row.at2 _ _ _ _) _
  have r2 : Row W (w.heap.size + 1 + 1) 29 [.slice ra rn rc, .slice sa sn sc, .slice xa xn xc, .int .i64 r.factor, .string r.serial] := by rw [hW]; exact Row.at3 _ _ _ _ _
  rw [← hW]
  clear hW
  have d2 : W.cell? ⟨w.heap.size + 1, 2, none⟩ = some (.slice ma mn mc) := (r1.cell? 2).trans rfl
  have d3 : W.cell? ⟨w.heap.size + 1, 3, none⟩ = some (.slice ba bn bc) := (r1.cell? 3).trans rfl

  go_upto_region 5 with (first | (refine wpList_load_row rfl 29 _ rfl _ rfl _ _ _ _ r2 Tryz.underlying29 rfl (by kernel_rfl) ?_) | (go_at_call 18; (refine (cW0.out _ bW).mono ?_); rintro e w1 ⟨v1, rfl, o1, b1⟩; obtain ⟨p1, q1, rfl⟩ := OwnS.shape o1) | fail)
  clear d2 d3 o1
  have r0 := r0.keep b1
  have r1 := Row.keep r1 b1
  have r2 := Row.keep r2 b1
  have bW := Bel.to bW b1
  clear b1
  go_upto_region 6 with (first | (refine wpList_load_row rfl 29 _ rfl _ rfl _ _ _ _ r2 Tryz.underlying29 rfl (by kernel_rfl) ?_) | (go_at_call 20; (refine (cC0.out _ bW).mono ?_); rintro e w2 ⟨v2, rfl, o2, b2⟩; obtain ⟨p2, q2, rfl, -, -, -⟩ := o2.form) | fail)
  clear o2
  have r0 := r0.keep b2
  have r1 := Row.keep r1 b2
  have r2 := Row.keep r2 b2
  have bW := Bel.to bW b2
  clear b2
  have e0 : w2.cell? ⟨w.heap.size + 1, 0, none⟩ = some (.int .i64 d.ticket) := (r1.cell? 0).trans rfl
  have e1 : w2.cell? ⟨w.heap.size + 1, 1, none⟩ = some (.int .i64 d.line) := (r1.cell? 1).trans rfl
  have e2 : w2.cell? ⟨w.heap.size + 1, 2, none⟩ = some (.slice ma mn mc) := (r1.cell? 2).trans rfl
  have e3 : w2.cell? ⟨w.heap.size + 1, 3, none⟩ = some (.slice ba bn bc) := (r1.cell? 3).trans rfl
  have rg3 : w2.rangeAt (w.heap.size + 1) 2 [.slice ma mn mc, .slice ba bn bc] := fun j u hu => by
    match j, hu with
    | 0, hu => simp at hu; subst hu; exact e2
    | 1, hu => simp at hu; subst hu; exact e3
  go_wp2_with (first | (refine wpList_load_mid rfl 41 _ rfl (w.heap.size + 1) 2 rfl [.slice ma mn mc, .slice ba bn bc] _ rg3 Tryz.underlying41 rfl (by kernel_rfl) ?_) | fail)
  refine (cA0.out _).mono ?_
  rintro e w3 ⟨rfl, b3⟩
  clear e0 e1 e2 e3 rg3
  have r0 := r0.keep b3
  have r2 := Row.keep r2 b3
  have bW := Bel.to bW b3
  clear b3 r1
  go_wp2_with fail
  refine (cL0.out _).mono ?_
  rintro e w4 ⟨rfl, rfl⟩
  by_cases hg : gameE g = 0
  · go_wp2_with (first | (refine wpList_load_row rfl 25 _ rfl _ rfl _ _ _ _ r0 Tryz.underlying25 rfl (by kernel_rfl) ?_) | fail)
    refine (cN.out _ bW hg).mono ?_
    intro e w5 hN
    obtain ⟨ib, col, rfl, hI, b5, -⟩ := NewO.idxB (w := w) hg bW hN
    have r2 := Row.keep r2 b5
    have cW := hide (iwins_any ib col g [] _ _ _ r w5 hI.1 (rrh.out.below hI.bel) hs (by simp))
    rw [winsQ_nil] at cW
    obtain ⟨c, hc⟩ : ∃ c, c = resE g r := ⟨_, rfl⟩
    rw [← hc] at cW
    unfold resVal at cW
    clear hN bW b5 r0 hc
    go_wp2_with (first | (refine wpList_load_row rfl 29 _ rfl _ rfl _ _ _ _ r2 Tryz.underlying29 rfl (by kernel_rfl) ?_) | fail)
    refine cW.out.mono ?_
    rintro e w6 ⟨v6, rfl, o6, b6⟩
    obtain ⟨p6, q6, rfl⟩ := OwnS.shape o6
    have hI := hI.below b6
    have cL := hide (ilen_any ib col g [] w6 hI.1)
    clear o6 r2 b6 cW
    go_wp2_with fail
    refine cL.out.mono ?_
    rintro e w7 ⟨rfl, rfl⟩
    go_wp2_with fail
    refine (cA.out _).mono ?_
    rintro e w8 ⟨rfl, hb⟩
    go_wp2
    go_ret
    exact ⟨rfl, Bel.to hI.bel hb⟩
  · have cB2 := hide (cB.out _ bW hg)
    obtain ⟨c, hc⟩ : ∃ c, c = gameE g := ⟨_, rfl⟩
    rw [← hc] at cB2
    clear hc hg
    go_wp2_with (first | (refine wpList_load_row rfl 25 _ rfl _ rfl _ _ _ _ r0 Tryz.underlying25 rfl (by kernel_rfl) ?_) | fail)
    refine cB2.out.mono ?_
    rintro e w5 ⟨rfl, b5⟩
    clear r2 r0 cB2
    go_wp2_with fail
    refine (cA.out _).mono ?_
    rintro e w6 ⟨rfl, hb⟩
    go_wp2
    go_ret
    exact ⟨rfl, Bel.to bW (Bel.to b5 hb)⟩
end Go.Proofs.YtmocomkobbiflaaGreat
end

section
/- lotterylaw33.build. Condition: at most 60 lines. -/
open Go.RowKit
set_option linter.unusedVariables false
set_option linter.unusedSimpArgs false
namespace Go.Proofs.YtmocomkobbiflaaGreat

/-- An index of lines, and the lines that it took. -/
def BuildP (g : GameD) (ds : List DoM) (w : World) (e : Ending) (w' : World) : Prop := ∃ ib col iv ims, e = .returned (.tuple #[.pointer (some ⟨ib, 0, none⟩), iv]) ∧ IdxB w w' col ib g (buildX g (ds.map (·.d))) ∧ OwnS 4 DoM.cells (fun _ _ => True) w' w.heap.size 43 iv ims ∧ ims.map (·.d) = buildX g (ds.map (·.d)) ∧ ∀ m ∈ ims, m ∈ ds
theorem build_len (g : GameD) (ds : List EntD) : (buildX g ds).length ≤ ds.length := by
  refine snocInd (P := fun ds => (buildX g ds).length ≤ ds.length) (by simp [buildX]) (fun l x ih => ?_) ds
  rw [build_snoc]
  unfold putX
  split
  · simp; omega
  · simp; omega
theorem do_one (m : DoM) (h : m.mv.oneCell' = true ∧ m.bv.oneCell' = true) : ∀ v ∈ m.cells, v.oneCell' = true := fun v hv => by
  simp [DoM.cells] at hv
  rcases hv with rfl | rfl | rfl | rfl
  · rfl
  · rfl
  · exact h.1
  · exact h.2
theorem doZ : (Value.agg #[.int .i64 0, .int .i64 0, .slice none 0 0, .slice none 0 0]).cells.size = 4 := rfl
theorem four_pos : 0 < 4 := by decide
theorem infoDo : (Tryz.prog.info? 43).map (fun i => (i.zero, i.size, i.bytes)) = some (some (.agg #[.int .i64 0, .int .i64 0, .slice none 0 0, .slice none 0 0]), 4, 64) := by kernel_rfl
/-- What is held on blocks that are not the index's stays. -/
theorem OwnS.chg6 {α : Type} {sz : Nat} {V : α → List Value} {w X : World} {base e : Nat} {v : Value} {l : List α} {col : Nat → Nat} (h : OwnS sz V (fun _ _ => True) w base e v l) (hc : Chg (Mine col) w X) (h6 : ∀ k, v.ownBlock = some k → col k = 6) : OwnS sz V (fun _ _ => True) X base e v l :=
  (h.hold (c := 6) h6) X (hc.mono fun k _ hk e => by unfold Mine at hk; omega)

set_option maxHeartbeats 8000000 in
set_option maxRecDepth 100000 in
theorem build33_bad (g : GameD) (av tv : Value) (ms : List AddonM) (v : Value) (ds : List DoM) (w : World) (rg : GameR w av tv ms g) (rd : DosR w v ds) (he : gameE g ≠ 0) :
    Calls Tryz.prog 24 #[gameVal g av tv, v] w (fun e w' => e = .returned (.tuple #[.pointer none, .slice none 0 0]) ∧ Below w.heap.size w w') := by
  have cB := hide (fun X (hX : Below w.heap.size w X) => inew_bad g av tv ms X (rg.below hX) he)
  obtain ⟨aa, ac, rfl, hal, ham⟩ := rg.1.1.shape
  obtain ⟨ta, tc, rfl, htl, htm⟩ := rg.2.2.shape
  obtain ⟨an, han⟩ : ∃ an, an = ms.length := ⟨_, rfl⟩
  obtain ⟨tn, htn⟩ : ∃ tn, tn = g.tiers.length := ⟨_, rfl⟩
  rw [← han, ← htn] at cB ⊢
  obtain ⟨va, vc, rfl, -, -⟩ := RdS.shape rd.1
  obtain ⟨c, hc⟩ : ∃ c, c = gameE g := ⟨_, rfl⟩
  rw [← hc] at cB he
  have hcb : (c != 0) = true := by simpa using he
  obtain ⟨n, hn⟩ : ∃ n, n = ds.length := ⟨_, rfl⟩
  rw [← hn]
  clear rg rd hal ham htl htm han htn hc he hn
  unfold gameVal at cB ⊢
  go_enter Tryz.func24, Tryz.ntmps24
  go_upto_region 1 with (fail)
  obtain ⟨W, hW⟩ : ∃ W, W = w.alloc (Obj.cells #[.string g.name, .int .i64 g.kind, .int .i64 g.price, .int .i64 g.main, .int .i64 g.of, .int .i64 g.bonus, .int .i64 g.bonusOf, .int .i64 g.extra, .int .i64 g.draws, .int .i64 g.system, .int .i64 g.days, .int .i64 g.at_, .int .i64 g.close, .int .i64 g.cancel, .int .i64 g.expiry, .int .i64 g.pool, .int .i64 g.reserve, .int .i64 g.round, .int .i64 g.cap, .int .i64 g.rolls, (.slice aa an ac), (.slice ta tn tc)] 25) := ⟨_, rfl⟩
  have bW : Below w.heap.size w W := by rw [hW]; exact Bel.al (Below.refl _ _) _
  have r0 : GameAt W w.heap.size g (.slice aa an ac) (.slice ta tn tc) := by rw [hW]; exact Row.new _ _ _
  rw [← hW]
  clear hW
  go_wp2_with (first | (refine wpList_load_row rfl 25 _ rfl _ rfl _ _ _ _ r0 Tryz.underlying25 rfl (by kernel_rfl) ?_) | fail)
  refine (cB.out _ bW).mono ?_
  rintro e w5 ⟨rfl, b5⟩
  go_wp2
  go_ret2
  exact ⟨rfl, Bel.to bW b5⟩

set_option maxHeartbeats 16000000 in
set_option maxRecDepth 100000 in
theorem build33_ok (g : GameD) (av tv : Value) (ms : List AddonM) (v : Value) (ds : List DoM) (w : World) (rg : GameR w av tv ms g) (rd : DosR w v ds) (he : gameE g = 0) (hlen : ds.length ≤ 1000) :
    Calls Tryz.prog 24 #[gameVal g av tv, v] w (BuildP g ds w) := by
  have cN := hide (fun X (hX : Below w.heap.size w X) => inew_ok g av tv ms X (rg.below hX) he)
  have hrd := hide rd
  have heh := hide he
  obtain ⟨aa, ac, rfl, hal, ham⟩ := rg.1.1.shape
  obtain ⟨ta, tc, rfl, htl, htm⟩ := rg.2.2.shape
  obtain ⟨an, han⟩ : ∃ an, an = ms.length := ⟨_, rfl⟩
  obtain ⟨tn, htn⟩ : ∃ tn, tn = g.tiers.length := ⟨_, rfl⟩
  rw [← han, ← htn] at cN ⊢
  obtain ⟨va, cap, rfl, -, -⟩ := RdS.shape rd.1
  obtain ⟨n, hn⟩ : ∃ n, n = ds.length := ⟨_, rfl⟩
  rw [← hn] at hrd ⊢
  have hn3 : (n : Int) ≤ 1000 := by omega
  replace hn := hide hn
  obtain ⟨BP, hBP⟩ : ∃ BP, BP = BuildP g ds w := ⟨_, rfl⟩
  rw [← hBP]
  replace hBP := hide hBP
  clear rg rd hal ham htl htm han htn he hlen
  unfold gameVal at cN ⊢
  go_enter Tryz.func24, Tryz.ntmps24
  go_upto_region 1 with (fail)
  obtain ⟨W, hW⟩ : ∃ W, W = w.alloc (Obj.cells #[.string g.name, .int .i64 g.kind, .int .i64 g.price, .int .i64 g.main, .int .i64 g.of, .int .i64 g.bonus, .int .i64 g.bonusOf, .int .i64 g.extra, .int .i64 g.draws, .int .i64 g.system, .int .i64 g.days, .int .i64 g.at_, .int .i64 g.close, .int .i64 g.cancel, .int .i64 g.expiry, .int .i64 g.pool, .int .i64 g.reserve, .int .i64 g.round, .int .i64 g.cap, .int .i64 g.rolls, (.slice aa an ac), (.slice ta tn tc)] 25) := ⟨_, rfl⟩
  have bW : Below w.heap.size w W := by rw [hW]; exact Bel.al (Below.refl _ _) _
  have r0 : GameAt W w.heap.size g (.slice aa an ac) (.slice ta tn tc) := by rw [hW]; exact Row.new _ _ _
  rw [← hW]
  clear hW
  go_wp2_with (first | (refine wpList_load_row rfl 25 _ rfl _ rfl _ _ _ _ r0 Tryz.underlying25 rfl (by kernel_rfl) ?_) | fail)
  refine (cN.out _ bW).mono ?_
  intro e w1 hN
  obtain ⟨ib, col, rfl, hI0, -, -⟩ := NewO.idxB (w := w) heh.out bW hN
  clear hN cN r0 bW
  go_upto_region 6 with (fail)
  go_wp2
  go_loopg [8, 9] n (fun gh t8 t wr => ∃ (i : Nat) (col : Nat → Nat) (ims : List DoM) (ea : Option Addr) (em ec : Nat), gh = n - i ∧ i ≤ n ∧ t = .int .i64 (i : Int) ∧ t8 = .slice ea em ec ∧ Hid (IdxB w wr col ib g (buildX g ((ds.take i).map (·.d)))) ∧ Hid (OwnS 4 DoM.cells (fun _ _ => True) wr w.heap.size 43 (.slice ea em ec) ims) ∧ Hid (∀ k, (Value.slice ea em ec).ownBlock = some k → col k = 6) ∧ Hid (ims.map (·.d) = buildX g ((ds.take i).map (·.d))) ∧ Hid (∀ m ∈ ims, m ∈ ds))
  case atStart => exact ⟨0, col, [], none, 0, 0, rfl, Nat.zero_le _, rfl, rfl, hI0, OwnS.nil _ _ _, fun k hk => by simp [Value.ownBlock] at hk, rfl, fun m hm => by simp at hm⟩
  case round =>
    clear hI0
    obtain ⟨i, col, ims, ea, em, ec, hgh, hi, rfl, rfl, hI, hO, h6, hmap, hsub⟩ := hrel
    replace hgh := hide hgh
    by_cases hlt : i < n
    · have hlt2 := hide hlt
      have hil : i < ds.length := by rw [← hn.out]; exact hlt
      obtain ⟨b, off, rfl, hbb, hcell⟩ := hrd.out.1.at_ hil
      obtain ⟨m, hm⟩ : ∃ m, m = ds[i] := ⟨_, rfl⟩
      have hmi : ds[i]? = some m := by rw [hm]; exact List.getElem?_eq_getElem hil
      have hmem : m ∈ ds := by rw [hm]; exact List.getElem_mem _
      have hd := hrd.out.2 m hmem
      have htk : (ds.take (i + 1)).map (·.d) = (ds.take i).map (·.d) ++ [m.d] := by rw [List.take_succ_eq_append_getElem hil, List.map_append, hm]; rfl
      have hbx : Hid (buildX g ((ds.take (i + 1)).map (·.d)) = putX g (buildX g ((ds.take i).map (·.d))) m.d) := by show _ = _; rw [htk, build_snoc]
      have hbl : (buildX g ((ds.take i).map (·.d))).length ≤ 1000 := by
        have h1 := build_len g ((ds.take i).map (·.d))
        rw [List.length_map, List.length_take] at h1
        omega
      have hil2 : Hid (ims.length ≤ 1000) := by
        show _ ≤ _
        have h1 := congrArg List.length hmap.out
        rw [List.length_map] at h1
        omega
      have cAd := iadd_old (X := wr.drew) (mv := m.mv) (bv := m.bv) (d := m.d) (hI.out.below (Below.drew (Below.refl _ _))) hd.1 (by omega) (by have := hd.2.1.2; exact this) (by have := hd.2.2.2; exact this)
      have hmone := hide (show m.mv.oneCell' = true ∧ m.bv.oneCell' = true from by
        obtain ⟨q1, q2, q3, e1⟩ := hd.1.1.shape
        obtain ⟨q4, q5, q6, e2⟩ := hd.1.2.shape
        rw [e1, e2]
        exact ⟨rfl, rfl⟩)
      have hwf := hide hd
      obtain ⟨ax, hax⟩ : ∃ ax, ax = addX g (buildX g ((ds.take i).map (·.d))) m.d := ⟨_, rfl⟩
      rw [← hax] at cAd
      replace hax := hide hax
      have hall : ∀ (X : World), Below w.heap.size w X → ∀ j u, m.cells[j]? = some u → X.cell? ⟨b, off + i * 4 + j, none⟩ = some u := fun X hX j u hu => Bel.cellOf hX (hcell i _ hmi j u hu)
      replace hmem := hide hmem
      clear hcell hm hmi hd htk hbl
      obtain ⟨⟨t, k2, ⟨la, lb⟩⟩, mv, bv⟩ := m
      obtain ⟨a1, a2, a3, rfl⟩ := hwf.out.1.1.shape
      obtain ⟨b1, b2, b3, rfl⟩ := hwf.out.1.2.shape
      have c0 := hide (fun X (hX : Below w.heap.size w X) => show X.cell? ⟨b, off + i * 4, none⟩ = some (.int .i64 t) from hall X hX 0 _ rfl)
      have c1 := hide (fun X (hX : Below w.heap.size w X) => show X.cell? ⟨b, off + i * 4 + 1, none⟩ = some (.int .i64 k2) from hall X hX 1 _ rfl)
      have c2 := hide (fun X (hX : Below w.heap.size w X) => show X.rangeAt b (off + i * 4 + 2) [.slice a1 a2 a3, .slice b1 b2 b3] from fun j u hu => by
        match j, hu with
        | 0, hu => exact hall X hX 2 u hu
        | 1, hu => exact hall X hX 3 u hu)
      have call := hide (fun X (hX : Below w.heap.size w X) => show X.rangeAt b (off + i * 4) [.int .i64 t, .int .i64 k2, .slice a1 a2 a3, .slice b1 b2 b3] from fun j u hu => hall X hX j u hu)
      unfold lineVal at cAd
      simp only [] at cAd
      replace cAd := hide cAd
      clear hall
      have i1 : (0 : Int) ≤ (i : Int) := by omega
      have i2 : (i : Int) < (n : Int) := by omega
      go_upto_region 8 with (fail)
      refine wp_region_held_drew (S := fun X => X.cell? ⟨b, off + i * 4, none⟩ = some (.int .i64 t) ∧ X.cell? ⟨b, off + i * 4 + 1, none⟩ = some (.int .i64 k2) ∧ X.rangeAt b (off + i * 4 + 2) [.slice a1 a2 a3, .slice b1 b2 b3]) (by kernel_rfl) ⟨c0.out wr.drew (Below.drew hI.out.bel), c1.out wr.drew (Below.drew hI.out.bel), c2.out wr.drew (Below.drew hI.out.bel)⟩ (fun hHeld => ?_)
      refine' wpAnyH_take (i := 0) (oi := _) (v := .pointer (some ⟨ib, 0, none⟩)) rfl (by kernel_rfl) (by kernel_rfl) (by kernel_rfl) (fun _ _ _ h => h) (Or.inl ⟨by first | (go_simp; done) | rfl, fun X hX => by go_simp⟩) hHeld ?_
      try simp only [Act.put, List.setIfInBounds_toArray, List.set_cons_zero, List.set_cons_succ]
      refine' wpAnyH_take (i := 1) (oi := _) (v := .slice (some ⟨b, off, none⟩) n cap) rfl (by kernel_rfl) (by kernel_rfl) (by kernel_rfl) (fun _ _ _ h => h) (Or.inl ⟨by first | (go_simp; done) | rfl, fun X hX => by go_simp⟩) hHeld ?_
      try simp only [Act.put, List.setIfInBounds_toArray, List.set_cons_zero, List.set_cons_succ]
      refine' wpAnyH_take (i := 2) (oi := _) (v := .int .i64 (i : Int)) rfl (by kernel_rfl) (by kernel_rfl) (by kernel_rfl) (fun _ _ _ h => h) (Or.inl ⟨by first | (go_simp; done) | rfl, fun X hX => by go_simp⟩) hHeld ?_
      try simp only [Act.put, List.setIfInBounds_toArray, List.set_cons_zero, List.set_cons_succ]
      refine' wpAnyH_take (i := 3) (oi := _) (v := .pointer (some ⟨b, off + i * 4, none⟩)) rfl (by kernel_rfl) (by kernel_rfl) (by kernel_rfl) (fun _ _ _ h => h) (Or.inl ⟨by first | (go_simp; done) | rfl, fun X hX => by go_simp⟩) hHeld ?_
      try simp only [Act.put, List.setIfInBounds_toArray, List.set_cons_zero, List.set_cons_succ]
      refine' wpAnyH_take (i := 4) (oi := _) (v := .pointer (some ⟨b, off + i * 4, none⟩)) rfl (by kernel_rfl) (by kernel_rfl) (by kernel_rfl) (fun _ _ _ h => h) (Or.inl ⟨by first | (go_simp; done) | rfl, fun X hX => by go_simp⟩) hHeld ?_
      try simp only [Act.put, List.setIfInBounds_toArray, List.set_cons_zero, List.set_cons_succ]
      refine' wpAnyH_take (i := 5) (oi := _) (v := .int .i64 t) rfl (by kernel_rfl) (by kernel_rfl) (by kernel_rfl) (fun _ _ _ h => h) (Or.inl ⟨by first | (go_simp; done) | rfl, fun X hX => by have h0 := hX.1; go_simp⟩) hHeld ?_
      try simp only [Act.put, List.setIfInBounds_toArray, List.set_cons_zero, List.set_cons_succ]
      refine' wpAnyH_take (i := 6) (oi := _) (v := .slice (some ⟨b, off, none⟩) n cap) rfl (by kernel_rfl) (by kernel_rfl) (by kernel_rfl) (fun _ _ _ h => h) (Or.inl ⟨by first | (go_simp; done) | rfl, fun X hX => by go_simp⟩) hHeld ?_
      try simp only [Act.put, List.setIfInBounds_toArray, List.set_cons_zero, List.set_cons_succ]
      refine' wpAnyH_take (i := 7) (oi := _) (v := .int .i64 (i : Int)) rfl (by kernel_rfl) (by kernel_rfl) (by kernel_rfl) (fun _ _ _ h => h) (Or.inl ⟨by first | (go_simp; done) | rfl, fun X hX => by go_simp⟩) hHeld ?_
      try simp only [Act.put, List.setIfInBounds_toArray, List.set_cons_zero, List.set_cons_succ]
      refine' wpAnyH_take (i := 8) (oi := _) (v := .pointer (some ⟨b, off + i * 4, none⟩)) rfl (by kernel_rfl) (by kernel_rfl) (by kernel_rfl) (fun _ _ _ h => h) (Or.inl ⟨by first | (go_simp; done) | rfl, fun X hX => by go_simp⟩) hHeld ?_
      try simp only [Act.put, List.setIfInBounds_toArray, List.set_cons_zero, List.set_cons_succ]
      refine' wpAnyH_take (i := 9) (oi := _) (v := .pointer (some ⟨b, off + i * 4 + 1, none⟩)) rfl (by kernel_rfl) (by kernel_rfl) (by kernel_rfl) (fun _ _ _ h => h) (Or.inl ⟨by first | (go_simp; done) | rfl, fun X hX => by go_simp⟩) hHeld ?_
      try simp only [Act.put, List.setIfInBounds_toArray, List.set_cons_zero, List.set_cons_succ]
      refine' wpAnyH_take (i := 10) (oi := _) (v := .int .i64 k2) rfl (by kernel_rfl) (by kernel_rfl) (by kernel_rfl) (fun _ _ _ h => h) (Or.inl ⟨by first | (go_simp; done) | rfl, fun X hX => by have h0 := hX.2.1; go_simp⟩) hHeld ?_
      try simp only [Act.put, List.setIfInBounds_toArray, List.set_cons_zero, List.set_cons_succ]
      refine' wpAnyH_take (i := 11) (oi := _) (v := .slice (some ⟨b, off, none⟩) n cap) rfl (by kernel_rfl) (by kernel_rfl) (by kernel_rfl) (fun _ _ _ h => h) (Or.inl ⟨by first | (go_simp; done) | rfl, fun X hX => by go_simp⟩) hHeld ?_
      try simp only [Act.put, List.setIfInBounds_toArray, List.set_cons_zero, List.set_cons_succ]
      refine' wpAnyH_take (i := 12) (oi := _) (v := .int .i64 (i : Int)) rfl (by kernel_rfl) (by kernel_rfl) (by kernel_rfl) (fun _ _ _ h => h) (Or.inl ⟨by first | (go_simp; done) | rfl, fun X hX => by go_simp⟩) hHeld ?_
      try simp only [Act.put, List.setIfInBounds_toArray, List.set_cons_zero, List.set_cons_succ]
      refine' wpAnyH_take (i := 13) (oi := _) (v := .pointer (some ⟨b, off + i * 4, none⟩)) rfl (by kernel_rfl) (by kernel_rfl) (by kernel_rfl) (fun _ _ _ h => h) (Or.inl ⟨by first | (go_simp; done) | rfl, fun X hX => by go_simp⟩) hHeld ?_
      try simp only [Act.put, List.setIfInBounds_toArray, List.set_cons_zero, List.set_cons_succ]
      refine' wpAnyH_take (i := 14) (oi := _) (v := .pointer (some ⟨b, off + i * 4 + 2, none⟩)) rfl (by kernel_rfl) (by kernel_rfl) (by kernel_rfl) (fun _ _ _ h => h) (Or.inl ⟨by first | (go_simp; done) | rfl, fun X hX => by go_simp⟩) hHeld ?_
      try simp only [Act.put, List.setIfInBounds_toArray, List.set_cons_zero, List.set_cons_succ]
      refine' wpAnyH_take (i := 15) (oi := _) (v := .agg #[.slice a1 a2 a3, .slice b1 b2 b3]) rfl (by kernel_rfl) (by kernel_rfl) (by kernel_rfl) (fun _ _ _ h => h) (by refine (yieldsIf_load_mid ?_ 41 (.tmp 41) rfl b (off + i * 4 + 2) ?_ [.slice a1 a2 a3, .slice b1 b2 b3] _ (fun X h => h.2.2) Tryz.underlying41 rfl (by kernel_rfl)) <;> go_simp) hHeld ?_
      try simp only [Act.put, List.setIfInBounds_toArray, List.set_cons_zero, List.set_cons_succ]
      refine wpAnyH_ready (rs := [16]) (by kernel_rfl) (by simp) ?_
      refine AllReadyH.cons (o := _) rfl (fun K hK => ?_) AllReadyH.nil
      go_simp
      refine cAd.out.mono ?_
      rintro e w2 ⟨rfl, col', hL, hI2, hC2⟩
      have hB2 : Below w.heap.size w w2 := hI2.bel
      go_wp2_with fail
      refine hK.out _ _ ⟨c0.out w2 hB2, c1.out w2 hB2, c2.out w2 hB2⟩ (fun hHeld => ?_)
      clear hK K
      try simp only [Act.put, List.setIfInBounds_toArray, List.set_cons_zero, List.set_cons_succ]
      refine' wpAnyH_take (i := 17) (oi := _) (v := .bool (ax == 0)) rfl (by kernel_rfl) (by kernel_rfl) (by kernel_rfl) (fun _ _ _ h => h) (Or.inl ⟨by first | (go_simp; done) | rfl, fun X hX => by go_simp⟩) hHeld ?_
      try simp only [Act.put, List.setIfInBounds_toArray, List.set_cons_zero, List.set_cons_succ]
      refine wpAnyH_done (by kernel_rfl) ?_ _
      go_simp
      replace hI2 := hide hI2
      replace hL := hide hL
      replace hC2 := hide hC2
      clear hHeld cAd hB2
      have h62 : Hid (∀ k, (Value.slice ea em ec).ownBlock = some k → col' k = 6) := fun k hk => by rw [hL.out k (hO.out.lt k hk).2]; exact h6.out k hk
      have hO2 := (OwnS.keep hO.out (Below.drew (Below.refl _ _))).chg6 hC2.out h6.out
      have hOlt := hide hO2.lt
      by_cases ha : ax = 0
      · have hab : (ax == 0) = true := by simpa using ha
        have hput : Hid (buildX g ((ds.take (i + 1)).map (·.d)) = buildX g ((ds.take i).map (·.d)) ++ [⟨t, k2, (la, lb)⟩]) := by show _ = _; rw [hbx.out]; unfold putX; rw [if_pos (by rw [← hax.out]; exact ha)]
        have hrange := call.out w2 hI2.out.bel
        have hnew : Hid (∀ k, w2.heap.size ≤ k → col' k = 6) := hI2.out.new6
        have hI3 : Hid (IdxB w w2 col' ib g (buildX g ((ds.take (i + 1)).map (·.d)))) := by rw [hbx.out]; exact hI2.out
        have hws : Hid (w.heap.size ≤ w2.heap.size) := hI2.out.bel.size
        clear ha hI2 hL hC2 hI hO h6 hbx c0 c1 c2 call
        go_wp2_with (first | (refine wpList_load_mid rfl 43 _ rfl b (off + i * 4) rfl [.int .i64 t, .int .i64 k2, .slice a1 a2 a3, .slice b1 b2 b3] _ hrange Tryz.underlying43 rfl (by kernel_rfl) ?_) | (refine wpList_appendS _ rfl _ _ 26 rfl (sz := 4) (V := DoM.cells) (R := fun _ _ => True) do_len w.heap.size 43 (.agg #[.int .i64 0, .int .i64 0, .slice none 0 0, .slice none 0 0]) 64 Tryz.underlying26 infoDo doZ four_pos _ ims rfl ?_ _ [⟨⟨t, k2, (la, lb)⟩, .slice a1 a2 a3, .slice b1 b2 b3⟩] rfl ?_ (fun _ _ _ _ => trivial) ?_ ?_ ?_ ?_ ?_) | fail)
        case refine_1 => exact OwnS.keep hO2 (Bel.al (Below.refl _ _) _)
        case refine_2 => exact rdS_one _ (V := DoM.cells) (x := (⟨⟨t, k2, (la, lb)⟩, .slice a1 a2 a3, .slice b1 b2 b3⟩ : DoM)) (Row.new w2 _ _) (Nat.le_refl _) (by decide)
        case refine_3 => first | exact fun u hu => do_one ⟨⟨t, k2, (la, lb)⟩, .slice a1 a2 a3, .slice b1 b2 b3⟩ ⟨rfl, rfl⟩ u hu | exact fun x hx u hu => by rcases List.mem_singleton.1 hx with rfl; exact do_one _ ⟨rfl, rfl⟩ u hu
        case refine_4 => have := hil2.out; simp; omega
        case refine_5 => have := hil2.out; simp; omega
        case refine_6 => have := hws.out; simp; omega
        intro v4 w4 ho4 hg4 hl4
        obtain ⟨e4, m4, f4, rfl⟩ : ∃ a b c, v4 = Value.slice a b c := by obtain ⟨a, c, h⟩ := ho4.shape; exact ⟨a, _, c, h⟩
        have hI4 : Hid (IdxB w w4 col' ib g (buildX g ((ds.take (i + 1)).map (·.d)))) := (hI3.out.below (Bel.al (Below.refl _ _) _)).turn (Chg.ofGb hg4 fun k hk => hk) (fun k hk hpk => ⟨h62.out k hpk, (hOlt.out k hpk).1⟩)
        have h64 : Hid (∀ k, (Value.slice e4 m4 f4).ownBlock = some k → col' k = 6) := fun k hk => by
          rcases hl4 with hl4 | hl4
          · exact h62.out k (hl4 ▸ hk)
          · rw [hl4] at hk
            injection hk with hk
            exact hnew.out k (by rw [← hk]; simp)
        clear hO2 hg4 hl4 hI3 hrange
        go_wp2
        go_roundg (n - (i + 1))
        case measure => have := hgh.out; have := hlt2.out; omega
        case rel =>
          refine ⟨i + 1, col', _, e4, m4, f4, rfl, by have := hlt2.out; omega, by (have := hlt2.out; go_num), rfl, hI4, ho4, h64, ?_, ?_⟩
          · show _ = _
            rw [hput.out, List.map_append, hmap.out]
            rfl
          · intro x hx
            rcases List.mem_append.1 hx with hx | hx
            · exact hsub.out x hx
            · rw [List.mem_singleton.1 hx]; exact hmem.out
      · have hab : (ax == 0) = false := by simpa using ha
        have hput : Hid (buildX g ((ds.take (i + 1)).map (·.d)) = buildX g ((ds.take i).map (·.d))) := by show _ = _; rw [hbx.out]; unfold putX; rw [if_neg (by rw [← hax.out]; exact ha)]
        have hI3 : Hid (IdxB w w2 col' ib g (buildX g ((ds.take (i + 1)).map (·.d)))) := by rw [hbx.out]; exact hI2.out
        have hmap2 : Hid (ims.map (·.d) = buildX g ((ds.take (i + 1)).map (·.d))) := by rw [hput.out]; exact hmap
        have hO3 := hide hO2
        clear ha hI2 hL hC2 hI hO h6 hbx c0 c1 c2 call hput hO2
        go_wp2
        go_roundg (n - (i + 1))
        case measure => have := hgh.out; have := hlt2.out; omega
        case rel => exact ⟨i + 1, col', ims, ea, em, ec, rfl, by have := hlt2.out; omega, by (have := hlt2.out; go_num), rfl, hI3, hO3, h62, hmap2, hsub⟩
    · obtain rfl : n = i := by omega
      go_wp2
      rw [hBP.out]
      have htk : ds.take n = ds := List.take_of_length_le (by rw [← hn.out]; exact Nat.le_refl _)
      have h1 := hI.out
      have h2 := hmap.out
      rw [htk] at h1 h2
      exact ⟨ib, col, _, ims, rfl, h1, hO.out, h2, hsub.out⟩
end Go.Proofs.YtmocomkobbiflaaGreat
end

section
/- lotterylaw33.IndexOrders: the walk. No condition. -/
open Go.RowKit
set_option linter.unusedVariables false
set_option linter.unusedSimpArgs false
namespace Go.Proofs.YtmocomkobbiflaaGreat

/-- The lines that an index took, read. -/
theorem dos_of {w w1 X : World} {base e : Nat} {iv v : Value} {ims ds : List DoM} (hO : OwnS 4 DoM.cells (fun _ _ => True) X base e iv ims) (hd : DosR w v ds) (hsub : ∀ m ∈ ims, m ∈ ds) (hb : Below w.heap.size w X) : DosR X iv ims :=
  ⟨hO.rd do_len, fun m hm => ⟨((hd.2 m (hsub m hm)).1).below hb, (hd.2 m (hsub m hm)).2⟩⟩
theorem build_again (g : GameD) (ds : List EntD) (l : List EntD) (hl : l.Perm (buildX g ds)) : buildX g l = l :=
  build_all (diff_perm (build_diff g ds) hl.symm) fun x hx => build_ok g ds x (hl.subset hx)
set_option maxHeartbeats 16000000 in
set_option maxRecDepth 100000 in
theorem orders33_walk (g : GameD) (av tv : Value) (ms : List AddonM) (v : Value) (ds : List DoM) (mv bv xv : Value) (r : ResD) (w : World) (rg : GameR w av tv ms g) (rd : DosR w v ds) (rr : ResR w mv bv xv r) (hs : r.serial.size ≤ 9223372036854775807) :
    Calls Tryz.prog 6 #[gameVal g av tv, v, resVal mv bv xv r] w (BoolB true w) := by
  have cA := hide (fun X => awake33_any X)
  have cF := hide (fun X (hX : Below w.heap.size w X) => few33_any v ds 60 X (rd.below hX))
  have cBb := hide (fun X (hX : Below w.heap.size w X) (he : gameE g ≠ 0) => build33_bad g av tv ms v ds X (rg.below hX) (rd.below hX) he)
  have cBo := hide (fun X (hX : Below w.heap.size w X) (he : gameE g = 0) (hl : ds.length ≤ 1000) => build33_ok g av tv ms v ds X (rg.below hX) (rd.below hX) he hl)
  have rrh := hide rr
  have rdh := hide rd
  have rgh := hide rg
  obtain ⟨aa, ac, rfl, hal, ham⟩ := rg.1.1.shape
  obtain ⟨ta, tc, rfl, htl, htm⟩ := rg.2.2.shape
  obtain ⟨an, han⟩ : ∃ an, an = ms.length := ⟨_, rfl⟩
  obtain ⟨tn, htn⟩ : ∃ tn, tn = g.tiers.length := ⟨_, rfl⟩
  rw [← han, ← htn] at cBb cBo rgh ⊢
  replace htn := hide htn
  obtain ⟨ra, rn, rc, rfl⟩ := rr.1.shape
  obtain ⟨sa, sn, sc, rfl⟩ := rr.2.1.shape
  obtain ⟨xa, xn, xc, rfl⟩ := rr.2.2.shape
  obtain ⟨va, vc, rfl, -, -⟩ := RdS.shape rd.1
  obtain ⟨vn, hvn⟩ : ∃ vn, vn = ds.length := ⟨_, rfl⟩
  rw [← hvn] at cBb cBo cF rdh ⊢
  replace hvn := hide hvn
  replace hs := hide hs
  clear rg rd rr hal ham htl htm han
  unfold gameVal at cBb cBo
  unfold gameVal resVal
  go_enter Tryz.func6, Tryz.ntmps6
  go_upto_region 1 with (fail)
  obtain ⟨W, hW⟩ : ∃ W, W = (w.alloc (Obj.cells #[.string g.name, .int .i64 g.kind, .int .i64 g.price, .int .i64 g.main, .int .i64 g.of, .int .i64 g.bonus, .int .i64 g.bonusOf, .int .i64 g.extra, .int .i64 g.draws, .int .i64 g.system, .int .i64 g.days, .int .i64 g.at_, .int .i64 g.close, .int .i64 g.cancel, .int .i64 g.expiry, .int .i64 g.pool, .int .i64 g.reserve, .int .i64 g.round, .int .i64 g.cap, .int .i64 g.rolls, (.slice aa an ac), (.slice ta tn tc)] 25)).alloc (Obj.cells #[.slice ra rn rc, .slice sa sn sc, .slice xa xn xc, .int .i64 r.factor, .string r.serial] 29) := ⟨_, rfl⟩
  have bW : Below w.heap.size w W := by rw [hW]; exact Bel.al (Bel.al (Below.refl _ _) _) _
  have r0 : GameAt W w.heap.size g (.slice aa an ac) (.slice ta tn tc) := by rw [hW]; exact Row.alloc (Row.new _ _ _) _
  have r1 : Row W (w.heap.size + 1) 29 [.slice ra rn rc, .slice sa sn sc, .slice xa xn xc, .int .i64 r.factor, .string r.serial] := by rw [hW]; exact Row.at2 _ _ _ _
  rw [← hW]
  clear hW
  have cF2 := hide (cF.out W bW)
  clear cF
  go_wp2_with fail
  refine cF2.out.mono ?_
  rintro e w1 ⟨bb, rfl, hbb, rfl⟩
  clear cF2
  cases bb
  · clear hbb r0 r1 cBb cBo
    go_wp2_with fail
    refine (cA.out _).mono ?_
    rintro e wz ⟨rfl, hz⟩
    go_wp2
    go_ret
    exact ⟨rfl, Bel.to bW hz⟩
  have h60 : Hid (ds.length ≤ 60) := by show _ ≤ _; have := hbb rfl; omega
  clear hbb
  by_cases hg : gameE g = 0
  rotate_left
  · have cB2 := hide (cBb.out W bW hg)
    clear cBb cBo
    go_wp2_with (first | (refine wpList_load_row rfl 25 _ rfl _ rfl _ _ _ _ r0 Tryz.underlying25 rfl (by kernel_rfl) ?_) | fail)
    refine cB2.out.mono ?_
    rintro e w5 ⟨rfl, b5⟩
    have bW5 := Bel.to bW b5
    clear r1 r0 cB2 b5
    go_wp2_with fail
    refine (cA.out _).mono ?_
    rintro e wz ⟨rfl, hz⟩
    go_wp2
    go_ret
    exact ⟨rfl, Bel.to bW5 hz⟩
  have cB2 := hide (cBo.out W bW hg (by have := h60.out; have := hvn.out; omega))
  replace hg := hide hg
  clear cBb cBo
  go_wp2_with (first | (refine wpList_load_row rfl 25 _ rfl _ rfl _ _ _ _ r0 Tryz.underlying25 rfl (by kernel_rfl) ?_) | fail)
  refine cB2.out.mono ?_
  rintro e w2 ⟨ib, col, iv, ims, rfl, hI, hO, hmap, hsub⟩
  obtain ⟨ia, im, ic, rfl⟩ : ∃ a b c, iv = Value.slice a b c := by obtain ⟨a, c, h⟩ := hO.shape; exact ⟨a, _, c, h⟩
  have himl : Hid (im = ims.length) := by
    obtain ⟨a, c, h⟩ := hO.shape
    injection h
  have hesl := build_len g (ds.map (·.d))
  rw [List.length_map] at hesl
  obtain ⟨es, hes⟩ : ∃ es, es = buildX g (ds.map (·.d)) := ⟨_, rfl⟩
  rw [← hes] at hI hmap hesl
  replace hes := hide hes
  have hel : Hid (es.length ≤ 60) := by show _ ≤ _; have := h60.out; omega
  have himel : Hid (ims.length = es.length) := by show _ = _; rw [← hmap, List.length_map]
  replace hmap := hide hmap
  replace hsub := hide hsub
  have r0 := r0.keep hI.bel
  have r1 := Row.keep r1 hI.bel
  have b2 := Bel.to bW hI.bel
  have rr2 := hide (fun X (hX : Below w2.heap.size w2 X) => rrh.out.below (Bel.to b2 hX))
  clear cB2 hesl
  have cW := hide (fun X (hX : Below w2.heap.size w2 X) => iwins_any ib col g es (.slice ra rn rc) (.slice sa sn sc) (.slice xa xn xc) r X (hI.below hX).1 (rr2.out X hX) hs.out (by have := hel.out; omega))
  unfold resVal at cW
  have hOlt := hide hO.lt
  have hdf : Hid (DiffK es) := by show DiffK es; rw [hes.out]; exact build_diff _ _
  have hdo := hide (dos_of (w1 := w) hO rdh.out hsub.out b2)
  have n0 : (im : Int) ≤ 60 := by have := himl.out; have := himel.out; have := hel.out; omega
  have hsz := hide hI.bel.size
  have hwr : IntKind.i64.wrap ((im : Int) - 1) = (im : Int) - 1 := IntWalk.i64_in _ (by omega)
  have hw2s : Hid (w.heap.size ≤ w2.heap.size) := b2.size
  go_wp2
  go_loopg [9, 10] im (fun gh t9 t10 wr => ∃ (i : Nat) (bms : List DoM) (ea : Option Addr) (em ec : Nat), gh = im - i ∧ i ≤ im ∧ t10 = .int .i64 ((im : Int) - 1 - (i : Int)) ∧ t9 = .slice ea em ec ∧ Hid (OwnS 4 DoM.cells (fun _ _ => True) wr w2.heap.size 43 (.slice ea em ec) bms) ∧ Hid (bms = ims.reverse.take i) ∧ Hid (Below w2.heap.size w2 wr))
  case atStart => exact ⟨0, [], none, 0, 0, rfl, Nat.zero_le _, by simp, rfl, OwnS.nil _ _ _, rfl, Below.refl _ _⟩
  case round =>
    obtain ⟨i, bms, ea, em, ec, hgh, hi, rfl, rfl, hB, hbms, hbw⟩ := hrel
    replace hgh := hide hgh
    by_cases hlt : i < im
    · have hlt2 := hide hlt
      obtain ⟨j, hj⟩ : ∃ j, j = im - 1 - i := ⟨_, rfl⟩
      have hji : (im : Int) - 1 - (i : Int) = (j : Int) := by omega
      have hjl : j < ims.length := by rw [← himl.out]; omega
      have hw3 : IntKind.i64.wrap ((j : Int) - 1) = (im : Int) - 1 - ((i + 1 : Nat) : Int) := by rw [IntWalk.i64_in _ (by omega)]; omega
      rw [hji]
      obtain ⟨b, off, rfl, hbb, hcell⟩ := (hdo.out.1.below hbw.out).at_ hjl
      obtain ⟨m, hm⟩ : ∃ m, m = ims[j] := ⟨_, rfl⟩
      have hmi : ims[j]? = some m := by rw [hm]; exact List.getElem?_eq_getElem hjl
      have hrev : Hid (ims.reverse.take (i + 1) = ims.reverse.take i ++ [m]) := by
        show _ = _
        have hil : i < ims.reverse.length := by rw [List.length_reverse, ← himl.out]; exact hlt
        rw [List.take_succ_eq_append_getElem hil, List.getElem_reverse]
        have : ims.length - 1 - i = j := by rw [← himl.out]; omega
        simp only [this, hm]
      have hmd := hdo.out.2 m (by rw [hm]; exact List.getElem_mem _)
      obtain ⟨⟨t, k2, ⟨la, lb⟩⟩, mv, bv⟩ := m
      obtain ⟨a1, a2, a3, rfl⟩ := hmd.1.1.shape
      obtain ⟨b1, bb2, b3, rfl⟩ := hmd.1.2.shape
      have hrange : wr.rangeAt b (off + j * 4) [.int .i64 t, .int .i64 k2, .slice a1 a2 a3, .slice b1 bb2 b3] := fun q u hu => hcell j _ hmi q u hu
      have hil2 : Hid (bms.length ≤ 60) := by
        show _ ≤ _
        rw [hbms.out, List.length_take, List.length_reverse]
        have := himel.out
        have := hel.out
        omega
      have hbs : Hid (w2.heap.size ≤ wr.heap.size) := hbw.out.size
      have hOb := hB.out
      have i1 : (0 : Int) ≤ (j : Int) := by omega
      have i2 : (j : Int) < (im : Int) := by have := himl.out; omega
      have hbw2 := hbw
      clear hcell hm hmi hmd hB hj hji
      go_wp2_with (first | (refine wpList_load_mid rfl 43 _ rfl b (off + j * 4) rfl [.int .i64 t, .int .i64 k2, .slice a1 a2 a3, .slice b1 bb2 b3] _ hrange Tryz.underlying43 rfl (by kernel_rfl) ?_) | (refine wpList_appendS _ rfl _ _ 26 rfl (sz := 4) (V := DoM.cells) (R := fun _ _ => True) do_len w2.heap.size 43 (.agg #[.int .i64 0, .int .i64 0, .slice none 0 0, .slice none 0 0]) 64 Tryz.underlying26 infoDo doZ four_pos _ bms rfl ?_ _ [⟨⟨t, k2, (la, lb)⟩, .slice a1 a2 a3, .slice b1 bb2 b3⟩] rfl ?_ (fun _ _ _ _ => trivial) ?_ ?_ ?_ ?_ ?_) | fail)
      case refine_1 => exact OwnS.keep hOb (Bel.al (Below.refl _ _) _)
      case refine_2 => exact rdS_one _ (V := DoM.cells) (x := (⟨⟨t, k2, (la, lb)⟩, .slice a1 a2 a3, .slice b1 bb2 b3⟩ : DoM)) (Row.new wr _ _) (Nat.le_refl _) (by decide)
      case refine_3 => first | exact fun u hu => do_one ⟨⟨t, k2, (la, lb)⟩, .slice a1 a2 a3, .slice b1 bb2 b3⟩ ⟨rfl, rfl⟩ u hu | exact fun x hx u hu => by rcases List.mem_singleton.1 hx with rfl; exact do_one _ ⟨rfl, rfl⟩ u hu
      case refine_4 => have := hil2.out; simp; omega
      case refine_5 => have := hil2.out; simp; omega
      case refine_6 => have := hbs.out; simp; omega
      intro v4 w4 ho4 hg4 hl4
      obtain ⟨e4, m4, f4, rfl⟩ : ∃ a b c, v4 = Value.slice a b c := by obtain ⟨a, c, h⟩ := ho4.shape; exact ⟨a, _, c, h⟩
      have hbw4 : Hid (Below w2.heap.size w2 w4) := (Bel.to hbw2.out (Bel.al (Below.refl _ _) _)).grown hg4 (by have := hbs.out; simp; omega) (fun k hk => (OwnS.lt hOb k hk).1)
      clear hOb hg4 hl4 hrange
      go_wp2
      go_roundg (im - (i + 1))
      case measure => have := hgh.out; have := hlt2.out; omega
      case rel =>
        refine ⟨i + 1, _, e4, m4, f4, rfl, by have := hlt2.out; omega, ?_, rfl, ho4, ?_, hbw4⟩
        · first | rfl | (rw [hw3]) | go_num
        · show _ = _
          rw [hrev.out, hbms.out]
    · obtain rfl : im = i := by omega
      have hz0 : (im : Int) - 1 - (im : Int) = -1 := by omega
      rw [hz0]
      have hbms2 : bms = ims.reverse := by rw [hbms.out]; exact List.take_of_length_le (by rw [List.length_reverse, ← himl.out]; exact Nat.le_refl _)
      have hback : (bms.map (·.d)).Perm (buildX g (ds.map (·.d))) := by
        rw [hbms2, List.map_reverse, hmap.out, ← hes.out]
        exact List.reverse_perm _
      have hmr : bms.map (·.d) = es.reverse := by rw [hbms2, List.map_reverse, hmap.out]
      have hag := build_again g (ds.map (·.d)) _ hback
      have bw1 := Bel.to b2 hbw.out
      have hdB := dos_of (w1 := w) hB.out rdh.out (fun m hm => hsub.out m (by rw [hbms2] at hm; exact List.mem_reverse.1 hm)) bw1
      have hbl : bms.length ≤ 60 := by rw [hbms2, List.length_reverse]; have := himel.out; have := hel.out; omega
      have cB3 := hide (build33_ok g _ _ ms _ bms wr (rgh.out.below bw1) hdB hg.out (by omega))
      have hbe : Hid (buildX g (bms.map (·.d)) = es.reverse) := by show _ = _; rw [hag, hmr]
      have hbe2 : Hid (bms.length = es.length) := by show _ = _; rw [← List.length_map (f := (·.d)), hmr, List.length_reverse]
      have r0 := r0.keep hbw.out
      have r1 := Row.keep r1 hbw.out
      unfold gameVal at cB3
      clear hB hbms hbms2 hback hmr hag hdB hbl hgh hi hlt hz0
      go_wp2_with (first | (refine wpList_load_row rfl 25 _ rfl _ rfl _ _ _ _ r0 Tryz.underlying25 rfl (by kernel_rfl) ?_) | fail)
      refine cB3.out.mono ?_
      rintro e w5 ⟨ib2, col2, iv2, ims2, rfl, hI2, hO2, hmap2, hsub2⟩
      obtain ⟨ia2, ic2, hiv2⟩ := hO2.shape
      subst hiv2
      rw [hbe.out] at hI2 hmap2
      have hl2 : ims2.length = im := by rw [himl.out, himel.out, ← List.length_map (f := (·.d)), hmap2, List.length_reverse]
      rw [hl2]
      have b25 : Below w2.heap.size w2 w5 := Bel.to hbw.out hI2.bel
      have r1 := Row.keep r1 hI2.bel
      have cW2 := hide (cW.out w5 b25)
      have hgne : ((im : Int) != (im : Int)) = false := by simp
      clear hl2 hmap2 hO2 hsub2 cB3 r0 cW
      go_wp2_with (first | (refine wpList_load_row rfl 29 _ rfl _ rfl _ _ _ _ r1 Tryz.underlying29 rfl (by kernel_rfl) ?_) | fail)
      refine cW2.out.mono ?_
      rintro e w6 ⟨v6, rfl, o6, b6⟩
      obtain ⟨p6, q6, rfl⟩ := OwnS.shape o6
      have r1 := Row.keep r1 b6
      have cW3 := hide (iwins_any ib2 col2 g es.reverse (.slice ra rn rc) (.slice sa sn sc) (.slice xa xn xc) r w6 (hI2.below b6).1 (rr2.out w6 (Bel.to b25 b6)) hs.out (by rw [List.length_reverse]; have := hel.out; omega))
      have hq : winsQ g r es.reverse = winsQ g r es := by unfold winsQ; rw [wins_back hdf.out]
      rw [hq] at cW3
      obtain ⟨l, hl⟩ : ∃ l, l = winsQ g r es := ⟨_, rfl⟩
      rw [← hl] at cW3 o6 ⊢
      obtain ⟨c, hc⟩ : ∃ c, c = resE g r := ⟨_, rfl⟩
      rw [← hc] at cW3 ⊢
      unfold resVal at cW3
      have o7 := OwnWin.rd o6
      clear hl hc hq o6 cW2
      go_wp2_with (first | (refine wpList_load_row rfl 29 _ rfl _ rfl _ _ _ _ r1 Tryz.underlying29 rfl (by kernel_rfl) ?_) | fail)
      refine cW3.out.mono ?_
      rintro e w7 ⟨v7, rfl, o8, b7⟩
      obtain ⟨p7, q7, rfl⟩ := OwnS.shape o8
      have cS := hide (samewins33_any _ _ _ _ w7 (WinsR.below o7 b7) (OwnWin.rd o8))
      rw [decide_eq_true (show l = l from rfl)] at cS
      have bE := Bel.to (Bel.to (Bel.to b2 b25) b6) b7
      have hcc : (c == c) = true := by simp
      clear o7 o8 cW3 r1
      go_wp2_with fail
      refine cS.out.mono ?_
      rintro e w8 ⟨rfl, b8⟩
      have bE2 := Bel.to bE b8
      clear cS
      go_wp2_with fail
      refine (cA.out _).mono ?_
      rintro e wz ⟨rfl, hz⟩
      go_wp2
      go_ret
      exact ⟨rfl, Bel.to bE2 hz⟩
end Go.Proofs.YtmocomkobbiflaaGreat
end

section
/- lotterylaw33.IndexFinds: the walk. No condition. -/
open Go.RowKit
set_option linter.unusedVariables false
set_option linter.unusedSimpArgs false
namespace Go.Proofs.YtmocomkobbiflaaGreat

/-- How many of some lines win. -/
def cntW (g : GameD) (r : ResD) (es : List EntD) : Nat := es.countP fun e => decide (tierM g e.l r ≠ -1)
theorem cntW_snoc {g : GameD} {r : ResD} {es : List EntD} {i : Nat} {e : EntD} (h : es[i]? = some e) : cntW g r (es.take (i + 1)) = cntW g r (es.take i) + if tierM g e.l r ≠ -1 then 1 else 0 := by
  obtain ⟨hi, he⟩ := List.getElem?_eq_some_iff.1 h
  unfold cntW
  rw [List.take_succ_eq_append_getElem hi, he, List.countP_append, List.countP_cons, List.countP_nil]
  simp
theorem cntW_all (g : GameD) (r : ResD) (es : List EntD) : (winsX g r (sortE es)).length = cntW g r es := by
  rw [wins_len]
  exact (sortE_perm es).countP_eq _
theorem tierOf_sort {g : GameD} {r : ResD} {es : List EntD} (hd : DiffK es) {e : EntD} (he : e ∈ es) : tierOf e.ticket e.line (winsX g r (sortE es)) = tierM g e.l r :=
  tierOf_wins (diff_perm hd (sortE_perm es).symm) ((sortE_perm es).symm.subset he)
theorem wins_rise {g : GameD} {r : ResD} {es : List EntD} (hd : DiffK es) {i : Nat} {x y : WinD} (hx : (winsX g r (sortE es))[i]? = some x) (hy : (winsX g r (sortE es))[i + 1]? = some y) : ltK (keyW x) (keyW y) := by
  have h := winsX_sorted (g := g) (r := r) (sortE_sorted hd)
  obtain ⟨h1, e1⟩ := List.getElem?_eq_some_iff.1 hx
  obtain ⟨h2, e2⟩ := List.getElem?_eq_some_iff.1 hy
  have := List.pairwise_iff_getElem.1 h i (i + 1) h1 h2 (by omega)
  rw [e1, e2] at this
  exact this

set_option maxHeartbeats 16000000 in
set_option maxRecDepth 100000 in
theorem finds33_walk (g : GameD) (av tv : Value) (ms : List AddonM) (v : Value) (ds : List DoM) (mv bv xv : Value) (r : ResD) (w : World) (rg : GameR w av tv ms g) (rd : DosR w v ds) (rr : ResR w mv bv xv r) (hs : r.serial.size ≤ 9223372036854775807) :
    Calls Tryz.prog 4 #[gameVal g av tv, v, resVal mv bv xv r] w (BoolB true w) := by
  have cA := hide (fun X => awake33_any X)
  have cF := hide (fun X (hX : Below w.heap.size w X) => few33_any v ds 60 X (rd.below hX))
  have cBb := hide (fun X (hX : Below w.heap.size w X) (he : gameE g ≠ 0) => build33_bad g av tv ms v ds X (rg.below hX) (rd.below hX) he)
  have cBo := hide (fun X (hX : Below w.heap.size w X) (he : gameE g = 0) (hl : ds.length ≤ 1000) => build33_ok g av tv ms v ds X (rg.below hX) (rd.below hX) he hl)
  have rrh := hide rr
  have rdh := hide rd
  have rgh := hide rg
  obtain ⟨aa, ac, rfl, hal, ham⟩ := rg.1.1.shape
  obtain ⟨ta, tc, rfl, htl, htm⟩ := rg.2.2.shape
  obtain ⟨an, han⟩ : ∃ an, an = ms.length := ⟨_, rfl⟩
  obtain ⟨tn, htn⟩ : ∃ tn, tn = g.tiers.length := ⟨_, rfl⟩
  rw [← han, ← htn] at cBb cBo rgh ⊢
  replace htn := hide htn
  obtain ⟨ra, rn, rc, rfl⟩ := rr.1.shape
  obtain ⟨sa, sn, sc, rfl⟩ := rr.2.1.shape
  obtain ⟨xa, xn, xc, rfl⟩ := rr.2.2.shape
  obtain ⟨va, vc, rfl, -, -⟩ := RdS.shape rd.1
  obtain ⟨vn, hvn⟩ : ∃ vn, vn = ds.length := ⟨_, rfl⟩
  rw [← hvn] at cBb cBo cF rdh ⊢
  replace hvn := hide hvn
  replace hs := hide hs
  clear rg rd rr hal ham htl htm han
  unfold gameVal at cBb cBo
  unfold gameVal resVal
  go_enter Tryz.func4, Tryz.ntmps4
  go_upto_region 1 with (fail)
  obtain ⟨W, hW⟩ : ∃ W, W = (w.alloc (Obj.cells #[.string g.name, .int .i64 g.kind, .int .i64 g.price, .int .i64 g.main, .int .i64 g.of, .int .i64 g.bonus, .int .i64 g.bonusOf, .int .i64 g.extra, .int .i64 g.draws, .int .i64 g.system, .int .i64 g.days, .int .i64 g.at_, .int .i64 g.close, .int .i64 g.cancel, .int .i64 g.expiry, .int .i64 g.pool, .int .i64 g.reserve, .int .i64 g.round, .int .i64 g.cap, .int .i64 g.rolls, (.slice aa an ac), (.slice ta tn tc)] 25)).alloc (Obj.cells #[.slice ra rn rc, .slice sa sn sc, .slice xa xn xc, .int .i64 r.factor, .string r.serial] 29) := ⟨_, rfl⟩
  have bW : Below w.heap.size w W := by rw [hW]; exact Bel.al (Bel.al (Below.refl _ _) _) _
  have r0 : GameAt W w.heap.size g (.slice aa an ac) (.slice ta tn tc) := by rw [hW]; exact Row.alloc (Row.new _ _ _) _
  have r1 : Row W (w.heap.size + 1) 29 [.slice ra rn rc, .slice sa sn sc, .slice xa xn xc, .int .i64 r.factor, .string r.serial] := by rw [hW]; exact Row.at2 _ _ _ _
  rw [← hW]
  clear hW
  have cF2 := hide (cF.out W bW)
  clear cF
  go_wp2_with fail
  refine cF2.out.mono ?_
  rintro e w1 ⟨bb, rfl, hbb, rfl⟩
  clear cF2
  cases bb
  · clear hbb r0 r1 cBb cBo
    go_wp2_with fail
    refine (cA.out _).mono ?_
    rintro e wz ⟨rfl, hz⟩
    go_wp2
    go_ret
    exact ⟨rfl, Bel.to bW hz⟩
  have h60 : Hid (ds.length ≤ 60) := by show _ ≤ _; have := hbb rfl; omega
  clear hbb
  by_cases hg : gameE g = 0
  rotate_left
  · have cB2 := hide (cBb.out W bW hg)
    clear cBb cBo
    go_wp2_with (first | (refine wpList_load_row rfl 25 _ rfl _ rfl _ _ _ _ r0 Tryz.underlying25 rfl (by kernel_rfl) ?_) | fail)
    refine cB2.out.mono ?_
    rintro e w5 ⟨rfl, b5⟩
    have bW5 := Bel.to bW b5
    clear r1 r0 cB2 b5
    go_wp2_with fail
    refine (cA.out _).mono ?_
    rintro e wz ⟨rfl, hz⟩
    go_wp2
    go_ret
    exact ⟨rfl, Bel.to bW5 hz⟩
  have cB2 := hide (cBo.out W bW hg (by have := h60.out; have := hvn.out; omega))
  replace hg := hide hg
  clear cBb cBo
  go_wp2_with (first | (refine wpList_load_row rfl 25 _ rfl _ rfl _ _ _ _ r0 Tryz.underlying25 rfl (by kernel_rfl) ?_) | fail)
  refine cB2.out.mono ?_
  rintro e w2 ⟨ib, col, iv, ims, rfl, hI, hO, hmap, hsub⟩
  obtain ⟨ia, im, ic, rfl⟩ : ∃ a b c, iv = Value.slice a b c := by obtain ⟨a, c, h⟩ := hO.shape; exact ⟨a, _, c, h⟩
  have himl : Hid (im = ims.length) := by
    obtain ⟨a, c, h⟩ := hO.shape
    injection h
  have hesl := build_len g (ds.map (·.d))
  rw [List.length_map] at hesl
  obtain ⟨es, hes⟩ : ∃ es, es = buildX g (ds.map (·.d)) := ⟨_, rfl⟩
  rw [← hes] at hI hmap hesl
  replace hes := hide hes
  have hel : Hid (es.length ≤ 60) := by show _ ≤ _; have := h60.out; omega
  have himel : Hid (ims.length = es.length) := by show _ = _; rw [← hmap, List.length_map]
  replace hmap := hide hmap
  replace hsub := hide hsub
  have r0 := r0.keep hI.bel
  have r1 := Row.keep r1 hI.bel
  have b2 := Bel.to bW hI.bel
  have rr2 := hide (fun X (hX : Below w2.heap.size w2 X) => rrh.out.below (Bel.to b2 hX))
  clear cB2 hesl
  have cW := hide (iwins_any ib col g es (.slice ra rn rc) (.slice sa sn sc) (.slice xa xn xc) r w2 hI.1 (rr2.out w2 (Below.refl _ _)) hs.out (by have := hel.out; omega))
  have cL := hide (fun X (hX : Below w2.heap.size w2 X) => ilen_any ib col g es X (hI.below hX).1)
  unfold winsQ at cW
  unfold resVal at cW
  have hdf : Hid (DiffK es) := by show DiffK es; rw [hes.out]; exact build_diff _ _
  have hok : Hid (∀ x ∈ es, OkD g x) := by show ∀ x ∈ es, OkD g x; rw [hes.out]; exact build_ok _ _
  have hdo2 := hide (dos_of (w1 := w) hO rdh.out hsub.out b2)
  have n0 : (im : Int) ≤ 60 := by have := himl.out; have := himel.out; have := hel.out; omega
  have himE : Hid (im = es.length) := by show _ = _; rw [himl.out, himel.out]
  by_cases hre : resE g r = 0
  rotate_left
  · rw [if_pos hre] at cW
    obtain ⟨c, hc⟩ : ∃ c, c = resE g r := ⟨_, rfl⟩
    rw [← hc] at cW hre
    replace hc := hide hc
    have hc1b : (c != c) = false := by simp
    have hc0b : (c == 0) = false := by simpa using hre
    have hreh := hide hre
    clear hre
    go_wp2_with (first | (refine wpList_load_row rfl 29 _ rfl _ rfl _ _ _ _ r1 Tryz.underlying29 rfl (by kernel_rfl) ?_) | fail)
    refine cW.out.mono ?_
    rintro e w3 ⟨v3, rfl, o3, b3⟩
    obtain ⟨p3, q3, rfl⟩ := OwnS.shape o3
    have hdo := hide (fun X (hX : Below w3.heap.size w3 X) => hdo2.out.below (Bel.to b3 hX))
    have rg3 := hide (fun X (hX : Below w3.heap.size w3 X) => rgh.out.below (Bel.to (Bel.to b2 b3) hX))
    have rr3 := hide (fun X (hX : Below w3.heap.size w3 X) => rr2.out X (Bel.to b3 hX))
    have hr0 := hide (fun X (hX : Below w3.heap.size w3 X) => (r0.keep b3).keep hX)
    have hr1 := hide (fun X (hX : Below w3.heap.size w3 X) => Row.keep (Row.keep r1 b3) hX)
    have bE := hide (Bel.to b2 b3)
    have cL3 := hide (fun X (hX : Below w3.heap.size w3 X) => cL.out X (Bel.to b3 hX))
    rw [← himE.out] at cL3
    clear o3 cW cL r0 r1 b3
    go_wp2
    go_loopg [11, 12, 13, 14] im (fun gh t11 t12 _ _ wr => ∃ (i : Nat), gh = im - i ∧ i ≤ im ∧ t12 = .int .i64 (i : Int) ∧ t11 = .int .i64 0 ∧ Hid (Below w3.heap.size w3 wr))
    case atStart => exact ⟨0, rfl, Nat.zero_le _, rfl, rfl, Below.refl _ _⟩
    case round =>
      obtain ⟨i, hgh, hi, rfl, rfl, hB⟩ := hrel
      replace hgh := hide hgh
      by_cases hlt : i < im
      · have hlt0 := hlt
        have hlt2 := hide hlt
        have hjl : i < ims.length := by rw [← himl.out]; exact hlt
        have hdX := hide (fun X (hX : Below w3.heap.size w3 X) => hdo.out X hX)
        obtain ⟨b, off, rfl, hbb, hcell⟩ := (hdo.out w3 (Below.refl _ _)).1.at_ hjl
        obtain ⟨m, hm⟩ : ∃ m, m = ims[i] := ⟨_, rfl⟩
        have hmi : ims[i]? = some m := by rw [hm]; exact List.getElem?_eq_getElem hjl
        have hmem : m ∈ ims := by rw [hm]; exact List.getElem_mem _
        have hmd := (hdo.out w3 (Below.refl _ _)).2 m hmem
        have hme : m.d ∈ es := by rw [← hmap.out]; exact List.mem_map.2 ⟨m, hmem, rfl⟩
        have hei : es[i]? = some m.d := by rw [← hmap.out, List.getElem?_map, hmi]; rfl
        have hln : lineE g m.d.l.1 m.d.l.2 = 0 := (hok.out m.d hme).2.2
        have cT := hide (fun X (hX : Below w3.heap.size w3 X) => mtier_any g (.slice aa an ac) (.slice ta tn tc) m.mv m.bv (.slice ra rn rc) (.slice sa sn sc) (.slice xa xn xc) ms m.d.l r X (rg3.out X hX) (hmd.1.below hX) (rr3.out X hX) hs.out)
        have hcm : checkM g m.d.l r = resE g r := by unfold checkM; rw [if_neg (by simpa using hln)]
        have htp : tierP g m.d.l r = if resE g r ≠ 0 then (0, resE g r) else (tierM g m.d.l r, 0) := by unfold tierP; rw [hcm]
        rw [htp] at cT
        unfold lineVal resVal gameVal at cT
        rw [← hc.out, if_pos hreh.out] at cT
        obtain ⟨⟨t, k2, ⟨la, lb⟩⟩, mv, bv⟩ := m
        obtain ⟨a1, a2, a3, rfl⟩ := hmd.1.1.shape
        obtain ⟨b1, bb2, b3, rfl⟩ := hmd.1.2.shape
        have hc0 := hide (fun X (hX : Below w3.heap.size w3 X) => show X.cell? ⟨b, off + i * 4, none⟩ = some (.int .i64 t) from Bel.cellOf hX (hcell i _ hmi 0 _ rfl))
        have hc1 := hide (fun X (hX : Below w3.heap.size w3 X) => show X.cell? ⟨b, off + i * 4 + 1, none⟩ = some (.int .i64 k2) from Bel.cellOf hX (hcell i _ hmi 1 _ rfl))
        have hlc := hide (fun X (hX : Below w3.heap.size w3 X) => show X.rangeAt b (off + i * 4 + 2) [.slice a1 a2 a3, .slice b1 bb2 b3] from fun j u hu => by
          match j, hu with
          | 0, hu => exact Bel.cellOf hX (hcell i _ hmi 2 u hu)
          | 1, hu => exact Bel.cellOf hX (hcell i _ hmi 3 u hu))
        have i1 : (0 : Int) ≤ (i : Int) := by omega
        have i2 : (i : Int) < (im : Int) := by omega
        clear hcell hmi hmem hmd hme hei hln htp hcm hdX hm
        go_upto_region 11 with (fail)
        refine wp_region_held_drew (S := fun X => X.rangeAt w.heap.size 0 (gameCells g (.slice aa an ac) (.slice ta tn tc)) ∧ X.rangeAt b (off + i * 4 + 2) [.slice a1 a2 a3, .slice b1 bb2 b3] ∧ X.rangeAt (w.heap.size + 1) 0 [.slice ra rn rc, .slice sa sn sc, .slice xa xn xc, .int .i64 r.factor, .string r.serial]) (by kernel_rfl) ⟨Rng.at0 (Rng.cons (hr0.out wr hB.out).drew (Rng.nil _)), hlc.out wr hB.out, Rng.at0 (Rng.cons (hr1.out wr hB.out).drew (Rng.nil _))⟩ (fun hHeld => ?_)
        refine' wpAnyH_take (i := 0) (oi := _) (v := .agg (gameCells g (.slice aa an ac) (.slice ta tn tc)).toArray) rfl (by kernel_rfl) (by kernel_rfl) (by kernel_rfl) (fun _ _ _ h => h) (by refine (yieldsIf_load_mid ?_ 25 (.tmp 3) rfl (w.heap.size) (0) ?_ (gameCells g (.slice aa an ac) (.slice ta tn tc)) _ (fun X h => h.1) Tryz.underlying25 rfl (by kernel_rfl)) <;> go_simp) hHeld ?_
        try simp only [Act.put, List.setIfInBounds_toArray, List.set_cons_zero, List.set_cons_succ]
        refine' wpAnyH_take (i := 1) (oi := _) (v := .slice (some ⟨b, off, none⟩) im ic) rfl (by kernel_rfl) (by kernel_rfl) (by kernel_rfl) (fun _ _ _ h => h) (Or.inl ⟨by first | (go_simp; done) | rfl, fun X hX => by go_simp⟩) hHeld ?_
        try simp only [Act.put, List.setIfInBounds_toArray, List.set_cons_zero, List.set_cons_succ]
        refine' wpAnyH_take (i := 2) (oi := _) (v := .int .i64 (i : Int)) rfl (by kernel_rfl) (by kernel_rfl) (by kernel_rfl) (fun _ _ _ h => h) (Or.inl ⟨by first | (go_simp; done) | rfl, fun X hX => by go_simp⟩) hHeld ?_
        try simp only [Act.put, List.setIfInBounds_toArray, List.set_cons_zero, List.set_cons_succ]
        refine' wpAnyH_take (i := 3) (oi := _) (v := .pointer (some ⟨b, off + i * 4, none⟩)) rfl (by kernel_rfl) (by kernel_rfl) (by kernel_rfl) (fun _ _ _ h => h) (Or.inl ⟨by first | (go_simp; done) | rfl, fun X hX => by go_simp⟩) hHeld ?_
        try simp only [Act.put, List.setIfInBounds_toArray, List.set_cons_zero, List.set_cons_succ]
        refine' wpAnyH_take (i := 4) (oi := _) (v := .pointer (some ⟨b, off + i * 4 + 2, none⟩)) rfl (by kernel_rfl) (by kernel_rfl) (by kernel_rfl) (fun _ _ _ h => h) (Or.inl ⟨by first | (go_simp; done) | rfl, fun X hX => by go_simp⟩) hHeld ?_
        try simp only [Act.put, List.setIfInBounds_toArray, List.set_cons_zero, List.set_cons_succ]
        refine' wpAnyH_take (i := 5) (oi := _) (v := .agg #[.slice a1 a2 a3, .slice b1 bb2 b3]) rfl (by kernel_rfl) (by kernel_rfl) (by kernel_rfl) (fun _ _ _ h => h) (by refine (yieldsIf_load_mid ?_ 41 (.tmp 46) rfl (b) (off + i * 4 + 2) ?_ [.slice a1 a2 a3, .slice b1 bb2 b3] _ (fun X h => h.2.1) Tryz.underlying41 rfl (by kernel_rfl)) <;> go_simp) hHeld ?_
        try simp only [Act.put, List.setIfInBounds_toArray, List.set_cons_zero, List.set_cons_succ]
        refine' wpAnyH_take (i := 6) (oi := _) (v := .agg #[.slice ra rn rc, .slice sa sn sc, .slice xa xn xc, .int .i64 r.factor, .string r.serial]) rfl (by kernel_rfl) (by kernel_rfl) (by kernel_rfl) (fun _ _ _ h => h) (by refine (yieldsIf_load_mid ?_ 29 (.tmp 5) rfl (w.heap.size + 1) (0) ?_ [.slice ra rn rc, .slice sa sn sc, .slice xa xn xc, .int .i64 r.factor, .string r.serial] _ (fun X h => h.2.2) Tryz.underlying29 rfl (by kernel_rfl)) <;> go_simp) hHeld ?_
        try simp only [Act.put, List.setIfInBounds_toArray, List.set_cons_zero, List.set_cons_succ]
        refine wpAnyH_ready (rs := [7]) (by kernel_rfl) (by simp) ?_
        refine AllReadyH.cons (o := _) rfl (fun K hK => ?_) AllReadyH.nil
        go_simp
        refine (cT.out wr.drew (Below.drew hB.out)).mono ?_
        rintro e wx ⟨rfl, hbx⟩
        go_wp2_with fail
        refine hK.out _ _ ⟨fun j u hu => Bel.cellOf hbx (hHeld.1 j u hu), fun j u hu => Bel.cellOf hbx (hHeld.2.1 j u hu), fun j u hu => Bel.cellOf hbx (hHeld.2.2 j u hu)⟩ (fun hHeld => ?_)
        clear hK K
        try simp only [Act.put, List.setIfInBounds_toArray, List.set_cons_zero, List.set_cons_succ]
        refine' wpAnyH_take (i := 8) (oi := _) (v := .tuple #[.int .i64 0, .int .i64 c]) rfl (by kernel_rfl) (by kernel_rfl) (by kernel_rfl) (fun _ _ _ h => h) (Or.inl ⟨by first | (go_simp; done) | rfl, fun X hX => by go_simp⟩) hHeld ?_
        try simp only [Act.put, List.setIfInBounds_toArray, List.set_cons_zero, List.set_cons_succ]
        refine' wpAnyH_take (i := 9) (oi := _) (v := .int .i64 0) rfl (by kernel_rfl) (by kernel_rfl) (by kernel_rfl) (fun _ _ _ h => h) (Or.inl ⟨by first | (go_simp; done) | rfl, fun X hX => by go_simp⟩) hHeld ?_
        try simp only [Act.put, List.setIfInBounds_toArray, List.set_cons_zero, List.set_cons_succ]
        refine' wpAnyH_take (i := 10) (oi := _) (v := .int .i64 c) rfl (by kernel_rfl) (by kernel_rfl) (by kernel_rfl) (fun _ _ _ h => h) (Or.inl ⟨by first | (go_simp; done) | rfl, fun X hX => by go_simp⟩) hHeld ?_
        try simp only [Act.put, List.setIfInBounds_toArray, List.set_cons_zero, List.set_cons_succ]
        refine' wpAnyH_take (i := 11) (oi := _) (v := .int .i64 0) rfl (by kernel_rfl) (by kernel_rfl) (by kernel_rfl) (fun _ _ _ h => h) (Or.inl ⟨by first | (go_simp; done) | rfl, fun X hX => by go_simp⟩) hHeld ?_
        try simp only [Act.put, List.setIfInBounds_toArray, List.set_cons_zero, List.set_cons_succ]
        refine' wpAnyH_take (i := 12) (oi := _) (v := .int .i64 c) rfl (by kernel_rfl) (by kernel_rfl) (by kernel_rfl) (fun _ _ _ h => h) (Or.inl ⟨by first | (go_simp; done) | rfl, fun X hX => by go_simp⟩) hHeld ?_
        try simp only [Act.put, List.setIfInBounds_toArray, List.set_cons_zero, List.set_cons_succ]
        refine wpAnyH_done (by kernel_rfl) ?_ _
        go_simp
        have hBx : Hid (Below w3.heap.size w3 wx) := Bel.to (Below.drew hB.out) hbx
        clear hHeld hbx cT hlc hB
        go_wp2
        refine wp_region_held_drew (S := fun X => True) (by kernel_rfl) trivial (fun hHeld => ?_)
        refine' wpAnyH_take (i := 0) (oi := _) (v := .int .i64 c) rfl (by kernel_rfl) (by kernel_rfl) (by kernel_rfl) (fun _ _ _ h => h) (Or.inl ⟨by first | (go_simp; done) | rfl, fun X hX => by go_simp⟩) hHeld ?_
        try simp only [Act.put, List.setIfInBounds_toArray, List.set_cons_zero, List.set_cons_succ]
        refine' wpAnyH_take (i := 1) (oi := _) (v := .int .i64 c) rfl (by kernel_rfl) (by kernel_rfl) (by kernel_rfl) (fun _ _ _ h => h) (Or.inl ⟨by first | (go_simp; done) | rfl, fun X hX => by go_simp⟩) hHeld ?_
        try simp only [Act.put, List.setIfInBounds_toArray, List.set_cons_zero, List.set_cons_succ]
        refine' wpAnyH_take (i := 2) (oi := _) (v := .bool false) rfl (by kernel_rfl) (by kernel_rfl) (by kernel_rfl) (fun _ _ _ h => h) (Or.inl ⟨by first | (go_simp; done) | rfl, fun X hX => by go_simp⟩) hHeld ?_
        try simp only [Act.put, List.setIfInBounds_toArray, List.set_cons_zero, List.set_cons_succ]
        refine' wpAnyH_take (i := 3) (oi := _) (v := .bool false) rfl (by kernel_rfl) (by kernel_rfl) (by kernel_rfl) (fun _ _ _ h => h) (Or.inl ⟨by first | (go_simp; done) | rfl, fun X hX => by go_simp⟩) hHeld ?_
        try simp only [Act.put, List.setIfInBounds_toArray, List.set_cons_zero, List.set_cons_succ]
        refine' wpAnyH_take (i := 4) (oi := _) (v := .int .i64 c) rfl (by kernel_rfl) (by kernel_rfl) (by kernel_rfl) (fun _ _ _ h => h) (Or.inl ⟨by first | (go_simp; done) | rfl, fun X hX => by go_simp⟩) hHeld ?_
        try simp only [Act.put, List.setIfInBounds_toArray, List.set_cons_zero, List.set_cons_succ]
        refine' wpAnyH_take (i := 5) (oi := _) (v := .bool false) rfl (by kernel_rfl) (by kernel_rfl) (by kernel_rfl) (fun _ _ _ h => h) (Or.inl ⟨by first | (go_simp; done) | rfl, fun X hX => by go_simp⟩) hHeld ?_
        try simp only [Act.put, List.setIfInBounds_toArray, List.set_cons_zero, List.set_cons_succ]
        refine' wpAnyH_take (i := 6) (oi := _) (v := .bool false) rfl (by kernel_rfl) (by kernel_rfl) (by kernel_rfl) (fun _ _ _ h => h) (Or.inl ⟨by first | (go_simp; done) | rfl, fun X hX => by go_simp⟩) hHeld ?_
        try simp only [Act.put, List.setIfInBounds_toArray, List.set_cons_zero, List.set_cons_succ]
        refine' wpAnyH_take (i := 7) (oi := _) (v := undef) rfl (by kernel_rfl) (by kernel_rfl) (by kernel_rfl) (fun _ _ _ h => h) (Or.inr ⟨by first | (go_simp; done) | rfl, rfl⟩) hHeld ?_
        try simp only [Act.put, List.setIfInBounds_toArray, List.set_cons_zero, List.set_cons_succ]
        refine' wpAnyH_take (i := 8) (oi := _) (v := undef) rfl (by kernel_rfl) (by kernel_rfl) (by kernel_rfl) (fun _ _ _ h => h) (Or.inr ⟨by first | (go_simp; done) | rfl, rfl⟩) hHeld ?_
        try simp only [Act.put, List.setIfInBounds_toArray, List.set_cons_zero, List.set_cons_succ]
        refine' wpAnyH_take (i := 9) (oi := _) (v := undef) rfl (by kernel_rfl) (by kernel_rfl) (by kernel_rfl) (fun _ _ _ h => h) (Or.inr ⟨by first | (go_simp; done) | rfl, rfl⟩) hHeld ?_
        try simp only [Act.put, List.setIfInBounds_toArray, List.set_cons_zero, List.set_cons_succ]
        refine' wpAnyH_take (i := 10) (oi := _) (v := undef) rfl (by kernel_rfl) (by kernel_rfl) (by kernel_rfl) (fun _ _ _ h => h) (Or.inr ⟨by first | (go_simp; done) | rfl, rfl⟩) hHeld ?_
        try simp only [Act.put, List.setIfInBounds_toArray, List.set_cons_zero, List.set_cons_succ]
        refine' wpAnyH_take (i := 11) (oi := _) (v := undef) rfl (by kernel_rfl) (by kernel_rfl) (by kernel_rfl) (fun _ _ _ h => h) (Or.inr ⟨by first | (go_simp; done) | rfl, rfl⟩) hHeld ?_
        try simp only [Act.put, List.setIfInBounds_toArray, List.set_cons_zero, List.set_cons_succ]
        refine' wpAnyH_take (i := 12) (oi := _) (v := undef) rfl (by kernel_rfl) (by kernel_rfl) (by kernel_rfl) (fun _ _ _ h => h) (Or.inr ⟨by first | (go_simp; done) | rfl, rfl⟩) hHeld ?_
        try simp only [Act.put, List.setIfInBounds_toArray, List.set_cons_zero, List.set_cons_succ]
        refine' wpAnyH_take (i := 13) (oi := _) (v := undef) rfl (by kernel_rfl) (by kernel_rfl) (by kernel_rfl) (fun _ _ _ h => h) (Or.inr ⟨by first | (go_simp; done) | rfl, rfl⟩) hHeld ?_
        try simp only [Act.put, List.setIfInBounds_toArray, List.set_cons_zero, List.set_cons_succ]
        refine' wpAnyH_take (i := 14) (oi := _) (v := undef) rfl (by kernel_rfl) (by kernel_rfl) (by kernel_rfl) (fun _ _ _ h => h) (Or.inr ⟨by first | (go_simp; done) | rfl, rfl⟩) hHeld ?_
        try simp only [Act.put, List.setIfInBounds_toArray, List.set_cons_zero, List.set_cons_succ]
        refine' wpAnyH_take (i := 15) (oi := _) (v := undef) rfl (by kernel_rfl) (by kernel_rfl) (by kernel_rfl) (fun _ _ _ h => h) (Or.inr ⟨by first | (go_simp; done) | rfl, rfl⟩) hHeld ?_
        try simp only [Act.put, List.setIfInBounds_toArray, List.set_cons_zero, List.set_cons_succ]
        refine' wpAnyH_take (i := 16) (oi := _) (v := undef) rfl (by kernel_rfl) (by kernel_rfl) (by kernel_rfl) (fun _ _ _ h => h) (Or.inr ⟨by first | (go_simp; done) | rfl, rfl⟩) hHeld ?_
        try simp only [Act.put, List.setIfInBounds_toArray, List.set_cons_zero, List.set_cons_succ]
        refine' wpAnyH_take (i := 17) (oi := _) (v := undef) rfl (by kernel_rfl) (by kernel_rfl) (by kernel_rfl) (fun _ _ _ h => h) (Or.inr ⟨by first | (go_simp; done) | rfl, rfl⟩) hHeld ?_
        try simp only [Act.put, List.setIfInBounds_toArray, List.set_cons_zero, List.set_cons_succ]
        refine' wpAnyH_take (i := 18) (oi := _) (v := undef) rfl (by kernel_rfl) (by kernel_rfl) (by kernel_rfl) (fun _ _ _ h => h) (Or.inr ⟨by first | (go_simp; done) | rfl, rfl⟩) hHeld ?_
        try simp only [Act.put, List.setIfInBounds_toArray, List.set_cons_zero, List.set_cons_succ]
        refine' wpAnyH_take (i := 19) (oi := _) (v := undef) rfl (by kernel_rfl) (by kernel_rfl) (by kernel_rfl) (fun _ _ _ h => h) (Or.inr ⟨by first | (go_simp; done) | rfl, rfl⟩) hHeld ?_
        try simp only [Act.put, List.setIfInBounds_toArray, List.set_cons_zero, List.set_cons_succ]
        refine' wpAnyH_take (i := 20) (oi := _) (v := undef) rfl (by kernel_rfl) (by kernel_rfl) (by kernel_rfl) (fun _ _ _ h => h) (Or.inr ⟨by first | (go_simp; done) | rfl, rfl⟩) hHeld ?_
        try simp only [Act.put, List.setIfInBounds_toArray, List.set_cons_zero, List.set_cons_succ]
        refine' wpAnyH_take (i := 21) (oi := _) (v := .bool false) rfl (by kernel_rfl) (by kernel_rfl) (by kernel_rfl) (fun _ _ _ h => h) (Or.inl ⟨by first | (go_simp; done) | rfl, fun X hX => by go_simp⟩) hHeld ?_
        try simp only [Act.put, List.setIfInBounds_toArray, List.set_cons_zero, List.set_cons_succ]
        refine' wpAnyH_take (i := 22) (oi := _) (v := .bool false) rfl (by kernel_rfl) (by kernel_rfl) (by kernel_rfl) (fun _ _ _ h => h) (Or.inl ⟨by first | (go_simp; done) | rfl, fun X hX => by go_simp⟩) hHeld ?_
        try simp only [Act.put, List.setIfInBounds_toArray, List.set_cons_zero, List.set_cons_succ]
        refine wpAnyH_done (by kernel_rfl) ?_ _
        go_simp
        clear hHeld
        have hBy : Hid (Below w3.heap.size w3 wx.drew) := Below.drew hBx.out
        go_wp2
        go_roundg (im - (i + 1))
        case measure => have := hgh.out; have := hlt2.out; omega
        case rel => exact ⟨i + 1, rfl, by have := hlt2.out; omega, by (have := hlt2.out; go_num), rfl, hBy⟩
      · obtain rfl : im = i := by omega
        have bE2 := Bel.to bE.out hB.out
        have cL4 := hide (cL3.out wr hB.out)
        clear hgh hi hlt
        go_wp2
        go_loopg [15] 0 (fun gh t15 wz => gh = 0 ∧ t15 = .int .i64 1 ∧ wr = wz)
        case atStart => exact ⟨rfl, rfl, rfl⟩
        case round =>
          obtain ⟨-, rfl, rfl⟩ := hrel
          go_wp2_with fail
          refine cL4.out.mono ?_
          rintro e wq ⟨rfl, rfl⟩
          go_wp2_with fail
          refine (cA.out _).mono ?_
          rintro e wz ⟨rfl, hz⟩
          go_wp2
          go_ret
          exact ⟨rfl, Bel.to bE2 hz⟩
  rw [if_neg (by simpa using hre), hre] at cW
  obtain ⟨l, hl⟩ : ∃ l, l = winsX g r (sortE es) := ⟨_, rfl⟩
  have hcl := cntW_all g r es
  have hcle := wins_le g r (sortE es)
  have hpl := (sortE_perm es).length_eq
  rw [← hl] at cW hcl hcle
  obtain ⟨n, hn⟩ : ∃ n, n = l.length := ⟨_, rfl⟩
  have hn60 : (n : Int) ≤ 60 := by have := hel.out; omega
  have hnc : Hid (n = cntW g r es) := by show n = _; rw [hn, hcl]
  replace hre := hide hre
  replace hl := hide hl
  clear hcl hcle hpl
  go_wp2_with (first | (refine wpList_load_row rfl 29 _ rfl _ rfl _ _ _ _ r1 Tryz.underlying29 rfl (by kernel_rfl) ?_) | fail)
  refine cW.out.mono ?_
  rintro e w3 ⟨v3, rfl, o3, b3⟩
  obtain ⟨p3, q3, rfl⟩ := OwnS.shape o3
  have o4 := hide (fun X (hX : Below w3.heap.size w3 X) => WinsR.below (OwnWin.rd o3) hX)
  rw [← hn] at o4 ⊢
  replace hn := hide hn
  have hdo := hide (fun X (hX : Below w3.heap.size w3 X) => hdo2.out.below (Bel.to b3 hX))
  have rg3 := hide (fun X (hX : Below w3.heap.size w3 X) => rgh.out.below (Bel.to (Bel.to b2 b3) hX))
  have rr3 := hide (fun X (hX : Below w3.heap.size w3 X) => rr2.out X (Bel.to b3 hX))
  have hr0 := hide (fun X (hX : Below w3.heap.size w3 X) => (r0.keep b3).keep hX)
  have hr1 := hide (fun X (hX : Below w3.heap.size w3 X) => Row.keep (Row.keep r1 b3) hX)
  have bE := hide (Bel.to b2 b3)
  have cL3 := hide (fun X (hX : Below w3.heap.size w3 X) => cL.out X (Bel.to b3 hX))
  rw [← himE.out] at cL3
  clear o3 cW cL r0 r1 b3
  go_wp2
  go_loopg [11, 12, 13, 14] im (fun gh t11 t12 _ _ wr => ∃ (i q : Nat), gh = im - i ∧ i ≤ im ∧ t12 = .int .i64 (i : Int) ∧ t11 = .int .i64 (q : Int) ∧ q ≤ i ∧ Hid (q = cntW g r (es.take i)) ∧ Hid (Below w3.heap.size w3 wr))
  case atStart => exact ⟨0, 0, rfl, Nat.zero_le _, rfl, rfl, Nat.le_refl _, rfl, Below.refl _ _⟩
  case round =>
    obtain ⟨i, q, hgh, hi, rfl, rfl, hqi, hq, hB⟩ := hrel
    replace hgh := hide hgh
    by_cases hlt : i < im
    · have hlt0 := hlt
      have hlt2 := hide hlt
      have hjl : i < ims.length := by rw [← himl.out]; exact hlt
      have hdX := hide (fun X (hX : Below w3.heap.size w3 X) => hdo.out X hX)
      obtain ⟨b, off, rfl, hbb, hcell⟩ := (hdo.out w3 (Below.refl _ _)).1.at_ hjl
      obtain ⟨m, hm⟩ : ∃ m, m = ims[i] := ⟨_, rfl⟩
      have hmi : ims[i]? = some m := by rw [hm]; exact List.getElem?_eq_getElem hjl
      have hmem : m ∈ ims := by rw [hm]; exact List.getElem_mem _
      have hmd := (hdo.out w3 (Below.refl _ _)).2 m hmem
      have hme : m.d ∈ es := by rw [← hmap.out]; exact List.mem_map.2 ⟨m, hmem, rfl⟩
      have hei : es[i]? = some m.d := by rw [← hmap.out, List.getElem?_map, hmi]; rfl
      have hln : lineE g m.d.l.1 m.d.l.2 = 0 := (hok.out m.d hme).2.2
      have cT := hide (fun X (hX : Below w3.heap.size w3 X) => mtier_any g (.slice aa an ac) (.slice ta tn tc) m.mv m.bv (.slice ra rn rc) (.slice sa sn sc) (.slice xa xn xc) ms m.d.l r X (rg3.out X hX) (hmd.1.below hX) (rr3.out X hX) hs.out)
      have hcm : checkM g m.d.l r = resE g r := by unfold checkM; rw [if_neg (by simpa using hln)]
      have htp : tierP g m.d.l r = if resE g r ≠ 0 then (0, resE g r) else (tierM g m.d.l r, 0) := by unfold tierP; rw [hcm]
      rw [htp] at cT
      unfold lineVal resVal gameVal at cT
      rw [if_neg (by simpa using hre.out)] at cT
      have hsn := cntW_snoc (g := g) (r := r) hei
      have htf : tierOf m.d.ticket m.d.line l = tierM g m.d.l r := by rw [hl.out]; exact tierOf_sort hdf.out hme
      have hlo : -1 ≤ tierM g m.d.l r := tierGo_lo _ _ _
      obtain ⟨tt, htt⟩ : ∃ tt, tt = tierM g m.d.l r := ⟨_, rfl⟩
      rw [← htt] at cT hsn htf hlo
      rw [← hq.out] at hsn
      obtain ⟨⟨t, k2, ⟨la, lb⟩⟩, mv, bv⟩ := m
      obtain ⟨a1, a2, a3, rfl⟩ := hmd.1.1.shape
      obtain ⟨b1, bb2, b3, rfl⟩ := hmd.1.2.shape
      have hc0 := hide (fun X (hX : Below w3.heap.size w3 X) => show X.cell? ⟨b, off + i * 4, none⟩ = some (.int .i64 t) from Bel.cellOf hX (hcell i _ hmi 0 _ rfl))
      have hc1 := hide (fun X (hX : Below w3.heap.size w3 X) => show X.cell? ⟨b, off + i * 4 + 1, none⟩ = some (.int .i64 k2) from Bel.cellOf hX (hcell i _ hmi 1 _ rfl))
      have hlc := hide (fun X (hX : Below w3.heap.size w3 X) => show X.rangeAt b (off + i * 4 + 2) [.slice a1 a2 a3, .slice b1 bb2 b3] from fun j u hu => by
        match j, hu with
        | 0, hu => exact Bel.cellOf hX (hcell i _ hmi 2 u hu)
        | 1, hu => exact Bel.cellOf hX (hcell i _ hmi 3 u hu))
      have i1 : (0 : Int) ≤ (i : Int) := by omega
      have i2 : (i : Int) < (im : Int) := by omega
      have cX := hide (fun X (hX : Below w3.heap.size w3 X) => tier33_any (.slice p3 n q3) l t k2 X (o4.out X hX))
      simp only [] at htf
      rw [htf] at cX
      have hne : (tt != tt) = false := by simp
      clear hcell hmi hmem hmd hme hei hln htp hcm hdX hm htt htf
      replace hsn := hide hsn
      go_upto_region 11 with (fail)
      refine wp_region_held_drew (S := fun X => X.rangeAt w.heap.size 0 (gameCells g (.slice aa an ac) (.slice ta tn tc)) ∧ X.rangeAt b (off + i * 4 + 2) [.slice a1 a2 a3, .slice b1 bb2 b3] ∧ X.rangeAt (w.heap.size + 1) 0 [.slice ra rn rc, .slice sa sn sc, .slice xa xn xc, .int .i64 r.factor, .string r.serial]) (by kernel_rfl) ⟨Rng.at0 (Rng.cons (hr0.out wr hB.out).drew (Rng.nil _)), hlc.out wr hB.out, Rng.at0 (Rng.cons (hr1.out wr hB.out).drew (Rng.nil _))⟩ (fun hHeld => ?_)
      refine' wpAnyH_take (i := 0) (oi := _) (v := .agg (gameCells g (.slice aa an ac) (.slice ta tn tc)).toArray) rfl (by kernel_rfl) (by kernel_rfl) (by kernel_rfl) (fun _ _ _ h => h) (by refine (yieldsIf_load_mid ?_ 25 (.tmp 3) rfl (w.heap.size) (0) ?_ (gameCells g (.slice aa an ac) (.slice ta tn tc)) _ (fun X h => h.1) Tryz.underlying25 rfl (by kernel_rfl)) <;> go_simp) hHeld ?_
      try simp only [Act.put, List.setIfInBounds_toArray, List.set_cons_zero, List.set_cons_succ]
      refine' wpAnyH_take (i := 1) (oi := _) (v := .slice (some ⟨b, off, none⟩) im ic) rfl (by kernel_rfl) (by kernel_rfl) (by kernel_rfl) (fun _ _ _ h => h) (Or.inl ⟨by first | (go_simp; done) | rfl, fun X hX => by go_simp⟩) hHeld ?_
      try simp only [Act.put, List.setIfInBounds_toArray, List.set_cons_zero, List.set_cons_succ]
      refine' wpAnyH_take (i := 2) (oi := _) (v := .int .i64 (i : Int)) rfl (by kernel_rfl) (by kernel_rfl) (by kernel_rfl) (fun _ _ _ h => h) (Or.inl ⟨by first | (go_simp; done) | rfl, fun X hX => by go_simp⟩) hHeld ?_
      try simp only [Act.put, List.setIfInBounds_toArray, List.set_cons_zero, List.set_cons_succ]
      refine' wpAnyH_take (i := 3) (oi := _) (v := .pointer (some ⟨b, off + i * 4, none⟩)) rfl (by kernel_rfl) (by kernel_rfl) (by kernel_rfl) (fun _ _ _ h => h) (Or.inl ⟨by first | (go_simp; done) | rfl, fun X hX => by go_simp⟩) hHeld ?_
      try simp only [Act.put, List.setIfInBounds_toArray, List.set_cons_zero, List.set_cons_succ]
      refine' wpAnyH_take (i := 4) (oi := _) (v := .pointer (some ⟨b, off + i * 4 + 2, none⟩)) rfl (by kernel_rfl) (by kernel_rfl) (by kernel_rfl) (fun _ _ _ h => h) (Or.inl ⟨by first | (go_simp; done) | rfl, fun X hX => by go_simp⟩) hHeld ?_
      try simp only [Act.put, List.setIfInBounds_toArray, List.set_cons_zero, List.set_cons_succ]
      refine' wpAnyH_take (i := 5) (oi := _) (v := .agg #[.slice a1 a2 a3, .slice b1 bb2 b3]) rfl (by kernel_rfl) (by kernel_rfl) (by kernel_rfl) (fun _ _ _ h => h) (by refine (yieldsIf_load_mid ?_ 41 (.tmp 46) rfl (b) (off + i * 4 + 2) ?_ [.slice a1 a2 a3, .slice b1 bb2 b3] _ (fun X h => h.2.1) Tryz.underlying41 rfl (by kernel_rfl)) <;> go_simp) hHeld ?_
      try simp only [Act.put, List.setIfInBounds_toArray, List.set_cons_zero, List.set_cons_succ]
      refine' wpAnyH_take (i := 6) (oi := _) (v := .agg #[.slice ra rn rc, .slice sa sn sc, .slice xa xn xc, .int .i64 r.factor, .string r.serial]) rfl (by kernel_rfl) (by kernel_rfl) (by kernel_rfl) (fun _ _ _ h => h) (by refine (yieldsIf_load_mid ?_ 29 (.tmp 5) rfl (w.heap.size + 1) (0) ?_ [.slice ra rn rc, .slice sa sn sc, .slice xa xn xc, .int .i64 r.factor, .string r.serial] _ (fun X h => h.2.2) Tryz.underlying29 rfl (by kernel_rfl)) <;> go_simp) hHeld ?_
      try simp only [Act.put, List.setIfInBounds_toArray, List.set_cons_zero, List.set_cons_succ]
      refine wpAnyH_ready (rs := [7]) (by kernel_rfl) (by simp) ?_
      refine AllReadyH.cons (o := _) rfl (fun K hK => ?_) AllReadyH.nil
      go_simp
      refine (cT.out wr.drew (Below.drew hB.out)).mono ?_
      rintro e wx ⟨rfl, hbx⟩
      go_wp2_with fail
      refine hK.out _ _ ⟨fun j u hu => Bel.cellOf hbx (hHeld.1 j u hu), fun j u hu => Bel.cellOf hbx (hHeld.2.1 j u hu), fun j u hu => Bel.cellOf hbx (hHeld.2.2 j u hu)⟩ (fun hHeld => ?_)
      clear hK K
      try simp only [Act.put, List.setIfInBounds_toArray, List.set_cons_zero, List.set_cons_succ]
      refine' wpAnyH_take (i := 8) (oi := _) (v := .tuple #[.int .i64 tt, .int .i64 0]) rfl (by kernel_rfl) (by kernel_rfl) (by kernel_rfl) (fun _ _ _ h => h) (Or.inl ⟨by first | (go_simp; done) | rfl, fun X hX => by go_simp⟩) hHeld ?_
      try simp only [Act.put, List.setIfInBounds_toArray, List.set_cons_zero, List.set_cons_succ]
      refine' wpAnyH_take (i := 9) (oi := _) (v := .int .i64 tt) rfl (by kernel_rfl) (by kernel_rfl) (by kernel_rfl) (fun _ _ _ h => h) (Or.inl ⟨by first | (go_simp; done) | rfl, fun X hX => by go_simp⟩) hHeld ?_
      try simp only [Act.put, List.setIfInBounds_toArray, List.set_cons_zero, List.set_cons_succ]
      refine' wpAnyH_take (i := 10) (oi := _) (v := .int .i64 0) rfl (by kernel_rfl) (by kernel_rfl) (by kernel_rfl) (fun _ _ _ h => h) (Or.inl ⟨by first | (go_simp; done) | rfl, fun X hX => by go_simp⟩) hHeld ?_
      try simp only [Act.put, List.setIfInBounds_toArray, List.set_cons_zero, List.set_cons_succ]
      refine' wpAnyH_take (i := 11) (oi := _) (v := .int .i64 tt) rfl (by kernel_rfl) (by kernel_rfl) (by kernel_rfl) (fun _ _ _ h => h) (Or.inl ⟨by first | (go_simp; done) | rfl, fun X hX => by go_simp⟩) hHeld ?_
      try simp only [Act.put, List.setIfInBounds_toArray, List.set_cons_zero, List.set_cons_succ]
      refine' wpAnyH_take (i := 12) (oi := _) (v := .int .i64 0) rfl (by kernel_rfl) (by kernel_rfl) (by kernel_rfl) (fun _ _ _ h => h) (Or.inl ⟨by first | (go_simp; done) | rfl, fun X hX => by go_simp⟩) hHeld ?_
      try simp only [Act.put, List.setIfInBounds_toArray, List.set_cons_zero, List.set_cons_succ]
      refine wpAnyH_done (by kernel_rfl) ?_ _
      go_simp
      have hBx : Hid (Below w3.heap.size w3 wx) := Bel.to (Below.drew hB.out) hbx
      clear hHeld hbx cT hlc hB
      go_wp2
      refine wp_region_held_drew (S := fun X => X.cell? ⟨b, off + i * 4, none⟩ = some (.int .i64 t) ∧ X.cell? ⟨b, off + i * 4 + 1, none⟩ = some (.int .i64 k2)) (by kernel_rfl) ⟨hc0.out wx.drew (Below.drew hBx.out), hc1.out wx.drew (Below.drew hBx.out)⟩ (fun hHeld => ?_)
      refine' wpAnyH_take (i := 0) (oi := _) (v := .int .i64 0) rfl (by kernel_rfl) (by kernel_rfl) (by kernel_rfl) (fun _ _ _ h => h) (Or.inl ⟨by first | (go_simp; done) | rfl, fun X hX => by go_simp⟩) hHeld ?_
      try simp only [Act.put, List.setIfInBounds_toArray, List.set_cons_zero, List.set_cons_succ]
      refine' wpAnyH_take (i := 1) (oi := _) (v := .int .i64 0) rfl (by kernel_rfl) (by kernel_rfl) (by kernel_rfl) (fun _ _ _ h => h) (Or.inl ⟨by first | (go_simp; done) | rfl, fun X hX => by go_simp⟩) hHeld ?_
      try simp only [Act.put, List.setIfInBounds_toArray, List.set_cons_zero, List.set_cons_succ]
      refine' wpAnyH_take (i := 2) (oi := _) (v := .bool false) rfl (by kernel_rfl) (by kernel_rfl) (by kernel_rfl) (fun _ _ _ h => h) (Or.inl ⟨by first | (go_simp; done) | rfl, fun X hX => by go_simp⟩) hHeld ?_
      try simp only [Act.put, List.setIfInBounds_toArray, List.set_cons_zero, List.set_cons_succ]
      refine' wpAnyH_take (i := 3) (oi := _) (v := .bool false) rfl (by kernel_rfl) (by kernel_rfl) (by kernel_rfl) (fun _ _ _ h => h) (Or.inl ⟨by first | (go_simp; done) | rfl, fun X hX => by go_simp⟩) hHeld ?_
      try simp only [Act.put, List.setIfInBounds_toArray, List.set_cons_zero, List.set_cons_succ]
      refine' wpAnyH_take (i := 4) (oi := _) (v := .int .i64 0) rfl (by kernel_rfl) (by kernel_rfl) (by kernel_rfl) (fun _ _ _ h => h) (Or.inl ⟨by first | (go_simp; done) | rfl, fun X hX => by go_simp⟩) hHeld ?_
      try simp only [Act.put, List.setIfInBounds_toArray, List.set_cons_zero, List.set_cons_succ]
      refine' wpAnyH_take (i := 5) (oi := _) (v := .bool true) rfl (by kernel_rfl) (by kernel_rfl) (by kernel_rfl) (fun _ _ _ h => h) (Or.inl ⟨by first | (go_simp; done) | rfl, fun X hX => by go_simp⟩) hHeld ?_
      try simp only [Act.put, List.setIfInBounds_toArray, List.set_cons_zero, List.set_cons_succ]
      refine' wpAnyH_take (i := 6) (oi := _) (v := .bool true) rfl (by kernel_rfl) (by kernel_rfl) (by kernel_rfl) (fun _ _ _ h => h) (Or.inl ⟨by first | (go_simp; done) | rfl, fun X hX => by go_simp⟩) hHeld ?_
      try simp only [Act.put, List.setIfInBounds_toArray, List.set_cons_zero, List.set_cons_succ]
      refine' wpAnyH_take (i := 7) (oi := _) (v := .slice p3 n q3) rfl (by kernel_rfl) (by kernel_rfl) (by kernel_rfl) (fun _ _ _ h => h) (Or.inl ⟨by first | (go_simp; done) | rfl, fun X hX => by go_simp⟩) hHeld ?_
      try simp only [Act.put, List.setIfInBounds_toArray, List.set_cons_zero, List.set_cons_succ]
      refine' wpAnyH_take (i := 8) (oi := _) (v := .slice (some ⟨b, off, none⟩) im ic) rfl (by kernel_rfl) (by kernel_rfl) (by kernel_rfl) (fun _ _ _ h => h) (Or.inl ⟨by first | (go_simp; done) | rfl, fun X hX => by go_simp⟩) hHeld ?_
      try simp only [Act.put, List.setIfInBounds_toArray, List.set_cons_zero, List.set_cons_succ]
      refine' wpAnyH_take (i := 9) (oi := _) (v := .int .i64 (i : Int)) rfl (by kernel_rfl) (by kernel_rfl) (by kernel_rfl) (fun _ _ _ h => h) (Or.inl ⟨by first | (go_simp; done) | rfl, fun X hX => by go_simp⟩) hHeld ?_
      try simp only [Act.put, List.setIfInBounds_toArray, List.set_cons_zero, List.set_cons_succ]
      refine' wpAnyH_take (i := 10) (oi := _) (v := .pointer (some ⟨b, off + i * 4, none⟩)) rfl (by kernel_rfl) (by kernel_rfl) (by kernel_rfl) (fun _ _ _ h => h) (Or.inl ⟨by first | (go_simp; done) | rfl, fun X hX => by go_simp⟩) hHeld ?_
      try simp only [Act.put, List.setIfInBounds_toArray, List.set_cons_zero, List.set_cons_succ]
      refine' wpAnyH_take (i := 11) (oi := _) (v := .pointer (some ⟨b, off + i * 4, none⟩)) rfl (by kernel_rfl) (by kernel_rfl) (by kernel_rfl) (fun _ _ _ h => h) (Or.inl ⟨by first | (go_simp; done) | rfl, fun X hX => by go_simp⟩) hHeld ?_
      try simp only [Act.put, List.setIfInBounds_toArray, List.set_cons_zero, List.set_cons_succ]
      refine' wpAnyH_take (i := 12) (oi := _) (v := .int .i64 t) rfl (by kernel_rfl) (by kernel_rfl) (by kernel_rfl) (fun _ _ _ h => h) (Or.inl ⟨by first | (go_simp; done) | rfl, fun X hX => by have h0 := hX.1; go_simp⟩) hHeld ?_
      try simp only [Act.put, List.setIfInBounds_toArray, List.set_cons_zero, List.set_cons_succ]
      refine' wpAnyH_take (i := 13) (oi := _) (v := .slice (some ⟨b, off, none⟩) im ic) rfl (by kernel_rfl) (by kernel_rfl) (by kernel_rfl) (fun _ _ _ h => h) (Or.inl ⟨by first | (go_simp; done) | rfl, fun X hX => by go_simp⟩) hHeld ?_
      try simp only [Act.put, List.setIfInBounds_toArray, List.set_cons_zero, List.set_cons_succ]
      refine' wpAnyH_take (i := 14) (oi := _) (v := .int .i64 (i : Int)) rfl (by kernel_rfl) (by kernel_rfl) (by kernel_rfl) (fun _ _ _ h => h) (Or.inl ⟨by first | (go_simp; done) | rfl, fun X hX => by go_simp⟩) hHeld ?_
      try simp only [Act.put, List.setIfInBounds_toArray, List.set_cons_zero, List.set_cons_succ]
      refine' wpAnyH_take (i := 15) (oi := _) (v := .pointer (some ⟨b, off + i * 4, none⟩)) rfl (by kernel_rfl) (by kernel_rfl) (by kernel_rfl) (fun _ _ _ h => h) (Or.inl ⟨by first | (go_simp; done) | rfl, fun X hX => by go_simp⟩) hHeld ?_
      try simp only [Act.put, List.setIfInBounds_toArray, List.set_cons_zero, List.set_cons_succ]
      refine' wpAnyH_take (i := 16) (oi := _) (v := .pointer (some ⟨b, off + i * 4 + 1, none⟩)) rfl (by kernel_rfl) (by kernel_rfl) (by kernel_rfl) (fun _ _ _ h => h) (Or.inl ⟨by first | (go_simp; done) | rfl, fun X hX => by go_simp⟩) hHeld ?_
      try simp only [Act.put, List.setIfInBounds_toArray, List.set_cons_zero, List.set_cons_succ]
      refine' wpAnyH_take (i := 17) (oi := _) (v := .int .i64 k2) rfl (by kernel_rfl) (by kernel_rfl) (by kernel_rfl) (fun _ _ _ h => h) (Or.inl ⟨by first | (go_simp; done) | rfl, fun X hX => by have h0 := hX.2; go_simp⟩) hHeld ?_
      try simp only [Act.put, List.setIfInBounds_toArray, List.set_cons_zero, List.set_cons_succ]
      refine' wpAnyH_take (i := 19) (oi := _) (v := .int .i64 tt) rfl (by kernel_rfl) (by kernel_rfl) (by kernel_rfl) (fun _ _ _ h => h) (Or.inl ⟨by first | (go_simp; done) | rfl, fun X hX => by go_simp⟩) hHeld ?_
      try simp only [Act.put, List.setIfInBounds_toArray, List.set_cons_zero, List.set_cons_succ]
      refine wpAnyH_ready (rs := [18]) (by kernel_rfl) (by simp) ?_
      refine AllReadyH.cons (o := _) rfl (fun K hK => ?_) AllReadyH.nil
      go_simp
      refine (cX.out wx.drew (Below.drew hBx.out)).mono ?_
      rintro e wy ⟨rfl, rfl⟩
      go_wp2_with fail
      refine hK.out _ _ hHeld (fun hHeld => ?_)
      clear hK K
      try simp only [Act.put, List.setIfInBounds_toArray, List.set_cons_zero, List.set_cons_succ]
      refine' wpAnyH_take (i := 20) (oi := _) (v := .bool false) rfl (by kernel_rfl) (by kernel_rfl) (by kernel_rfl) (fun _ _ _ h => h) (Or.inl ⟨by first | (go_simp; done) | rfl, fun X hX => by go_simp⟩) hHeld ?_
      try simp only [Act.put, List.setIfInBounds_toArray, List.set_cons_zero, List.set_cons_succ]
      refine' wpAnyH_take (i := 21) (oi := _) (v := .bool false) rfl (by kernel_rfl) (by kernel_rfl) (by kernel_rfl) (fun _ _ _ h => h) (Or.inl ⟨by first | (go_simp; done) | rfl, fun X hX => by go_simp⟩) hHeld ?_
      try simp only [Act.put, List.setIfInBounds_toArray, List.set_cons_zero, List.set_cons_succ]
      refine' wpAnyH_take (i := 22) (oi := _) (v := .bool false) rfl (by kernel_rfl) (by kernel_rfl) (by kernel_rfl) (fun _ _ _ h => h) (Or.inl ⟨by first | (go_simp; done) | rfl, fun X hX => by go_simp⟩) hHeld ?_
      try simp only [Act.put, List.setIfInBounds_toArray, List.set_cons_zero, List.set_cons_succ]
      refine wpAnyH_done (by kernel_rfl) ?_ _
      go_simp
      have hBy : Hid (Below w3.heap.size w3 wx.drew) := Below.drew hBx.out
      clear hHeld cX hc0 hc1 hBx
      by_cases h9 : 0 ≤ tt
      · have h9d : decide (0 ≤ tt) = true := decide_eq_true h9
        have hq2 : Hid (q + 1 = cntW g r (es.take (i + 1))) := by show _ = _; rw [hsn.out, if_pos (by omega)]
        go_wp2
        go_roundg (im - (i + 1))
        case measure => have := hgh.out; have := hlt2.out; omega
        case rel => exact ⟨i + 1, q + 1, rfl, by have := hlt2.out; omega, by (have := hlt2.out; go_num), by (have := hlt2.out; go_num), by omega, hq2, hBy⟩
      · have h9d : decide (0 ≤ tt) = false := decide_eq_false h9
        have hq2 : Hid (q = cntW g r (es.take (i + 1))) := by show _ = _; rw [hsn.out, if_neg (by omega)]; rfl
        go_wp2
        go_roundg (im - (i + 1))
        case measure => have := hgh.out; have := hlt2.out; omega
        case rel => exact ⟨i + 1, q, rfl, by have := hlt2.out; omega, by (have := hlt2.out; go_num), rfl, by omega, hq2, hBy⟩
    · obtain rfl : im = i := by omega
      have hqn : n = q := by rw [hnc.out, hq.out, List.take_of_length_le (by rw [← himE.out]; exact Nat.le_refl _)]
      subst hqn
      have bE2 := hide (Bel.to bE.out hB.out)
      have o5 := hide (o4.out wr hB.out)
      have cL4 := hide (fun X (hX : Below wr.heap.size wr X) => cL3.out X (Bel.to hB.out hX))
      clear hgh hi hlt hq hqi hB cL3 o4
      go_wp2
      go_loopg [15] n (fun gh t15 wz => ∃ (i d : Nat), gh = n - i ∧ t15 = .int .i64 ((i + 1 : Nat) : Int) ∧ i ≤ n ∧ wz = wr.drewN d)
      case atStart => exact ⟨0, 0, rfl, rfl, Nat.zero_le _, rfl⟩
      case round =>
        obtain ⟨i, dd, hgh, rfl, hin, rfl⟩ := hrel
        replace hgh := hide hgh
        by_cases hlt : i + 1 < n
        · have hlt2 := hide hlt
          have h1 : i < l.length := by rw [← hn.out]; omega
          have h2 : i + 1 < l.length := by rw [← hn.out]; exact hlt
          obtain ⟨b, off, rfl, hbb, hcell⟩ := o5.out.at_ h1
          obtain ⟨x, hx⟩ : ∃ x, x = l[i] := ⟨_, rfl⟩
          obtain ⟨y, hy⟩ : ∃ y, y = l[i + 1] := ⟨_, rfl⟩
          have hxk : l[i]? = some x := by rw [hx]; exact List.getElem?_eq_getElem h1
          have hyk : l[i + 1]? = some y := by rw [hy]; exact List.getElem?_eq_getElem h2
          have hk := wins_rise hdf.out (by rw [← hl.out]; exact hxk) (by rw [← hl.out]; exact hyk)
          obtain ⟨x1, x2, x3⟩ := x
          obtain ⟨y1, y2, y3⟩ := y
          unfold ltK keyW at hk
          simp only at hk
          have e0 : wr.cell? ⟨b, off + i * 3, none⟩ = some (.int .i64 x1) := hcell i _ hxk 0 _ rfl
          have e1 : wr.cell? ⟨b, off + i * 3 + 1, none⟩ = some (.int .i64 x2) := hcell i _ hxk 1 _ rfl
          have e2 : wr.cell? ⟨b, off + (i + 1) * 3, none⟩ = some (.int .i64 y1) := hcell (i + 1) _ hyk 0 _ rfl
          have e3 : wr.cell? ⟨b, off + (i + 1) * 3 + 1, none⟩ = some (.int .i64 y2) := hcell (i + 1) _ hyk 1 _ rfl
          have hsub1 : IntKind.i64.wrap (((i + 1 : Nat) : Int) - 1) = (i : Int) := by rw [IntWalk.i64_in _ (by omega)]; omega
          have g1 : (0 : Int) ≤ (i : Int) := by omega
          have g2 : (i : Int) < (n : Int) := by omega
          have g3 : (0 : Int) ≤ ((i + 1 : Nat) : Int) := by omega
          have g4 : ((i + 1 : Nat) : Int) < (n : Int) := by omega
          have hnext : IntKind.i64.wrap (((i + 1 : Nat) : Int) + 1) = ((i + 1 + 1 : Nat) : Int) := by rw [IntWalk.i64_in _ (by omega)]; omega
          obtain ⟨i', hi'⟩ : ∃ i' : Nat, i' = i + 1 := ⟨_, rfl⟩
          rw [← hi'] at e2 e3 hsub1 g3 g4 hnext hlt2 ⊢
          have hi2 := hide hi'
          clear hcell hx hy hxk hyk h1 h2 hlt hi'
          by_cases hlt1 : x1 < y1
          · have q1 : decide (y1 < x1) = false := decide_eq_false (by omega)
            have q2 : (y1 == x1) = false := by simpa using (show ¬ y1 = x1 by omega)
            have q3 : ¬ y1 < x1 := by omega
            have q4 : ¬ y1 = x1 := by omega
            replace hk := hide hk
            replace hlt1 := hide hlt1
            go_wp2
            go_quiet (fail)
            go_wp2
            go_roundg (n - i')
            case measure => have := hgh.out; have := hlt2.out; have := hi2.out; omega
            case rel => exact ⟨i', _, rfl, by (first | rfl | (rw [hnext]) | go_num), by have := hlt2.out; omega, rfl⟩
          · obtain ⟨rfl, hk2⟩ : x1 = y1 ∧ x2 < y2 := by omega
            have q1 : decide (x1 < x1) = false := decide_eq_false (by omega)
            have q2 : (x1 == x1) = true := by simp
            have q3 : decide (y2 ≤ x2) = false := decide_eq_false (by omega)
            have q4 : ¬ y2 ≤ x2 := by omega
            have q5 : ¬ x1 < x1 := by omega
            replace hk := hide hk
            replace hk2 := hide hk2
            clear hlt1
            go_wp2
            go_quiet (fail)
            go_wp2
            go_roundg (n - i')
            case measure => have := hgh.out; have := hlt2.out; have := hi2.out; omega
            case rel => exact ⟨i', _, rfl, by (first | rfl | (rw [hnext]) | go_num), by have := hlt2.out; omega, rfl⟩
        · have g4 : ¬ ((i + 1 : Nat) : Int) < (n : Int) := by omega
          have hnn : ((n : Int) == (n : Int)) = true := by simp
          have hmm : ((im : Int) == (im : Int)) = true := by simp
          have bD : Below wr.heap.size wr (wr.drewN dd) := Bel.drN (Below.refl _ _) dd
          have cL5 := hide (cL4.out _ bD)
          have bE3 := Bel.to bE2.out bD
          obtain ⟨Z, hZ⟩ : ∃ Z, Z = wr.drewN dd := ⟨_, rfl⟩
          rw [← hZ] at cL5 bE3 ⊢
          clear bD hZ hlt
          go_wp2_with fail
          refine cL5.out.mono ?_
          rintro e wq ⟨rfl, rfl⟩
          go_wp2_with fail
          refine (cA.out _).mono ?_
          rintro e wz ⟨rfl, hz⟩
          go_wp2
          go_ret
          exact ⟨rfl, Bel.to bE3 hz⟩
end Go.Proofs.YtmocomkobbiflaaGreat
end

section
/- IndexFinds: for every input the Go function lotterylaw33.IndexFinds returns true, and each argument reads afterwards as before. Conditions: none. -/
namespace Go.Proofs.YtmocomkobbiflaaGreat.indexFinds
open Go.ChangeShapes Go.WideShapes Go.ChangeAt Go.RowKit
set_option linter.unusedVariables false

theorem own : ownKnob Tryz.prog.godebug = none := by kernel_rfl
theorem laidOut : laidOutB Tryz.prog = true := by kernel_rfl

set_option maxRecDepth 100000 in
theorem lifted (os : Os) (started : os.Started) (H : Type) (enc : TypeId × Value → H) :
    ReturnsInHanded {} Tryz.checked os 4 .any (Rows.indexFindsSpec.pre6 enc Tryz.prog Tryz.f4 Rows.indexFindsRow.domain false) (Rows.indexFindsSpec.post enc Tryz.prog Tryz.f4 false true false false) := by
  refine returnsInHanded_of_change (C := Tryz.checked) own started (by kernel_rfl) Tryz.func4
    (ChangeSpec.witness6 (enc := enc) (C := Tryz.checked) false ⟨#[], #[.agg #[.string ⟨#[]⟩, .int .i64 0, .int .i64 0, .int .i64 0, .int .i64 0, .int .i64 0, .int .i64 0, .int .i64 0, .int .i64 0, .int .i64 0, .int .i64 0, .int .i64 0, .int .i64 0, .int .i64 0, .int .i64 0, .int .i64 0, .int .i64 0, .int .i64 0, .int .i64 0, .int .i64 0, .slice none 0 0, .slice none 0 0], .slice none 0 0, .agg #[.slice none 0 0, .slice none 0 0, .slice none 0 0, .int .i64 0, .string ⟨#[]⟩]], []⟩ 8 (by kernel_rfl) (by kernel_rfl) (by kernel_rfl) (by kernel_rfl)) ?_
  intro W base args ds gs before hval0 hW hcnd _
  have hval : ∀ (j : Nat) t v, Tryz.f4.params[j]? = some t → args[j]? = some v → Value.okWide Tryz.prog W .any base t v := hval0
  have hW' := hW
  obtain ⟨p, q, hA0, hV, rfl, hfz, hnd⟩ := hW
  have hA : DataW.TrodAll enc Tryz.prog W 0 (fun _ => true) true Tryz.f4.params.toList args.toList ds p := hA0
  rw [Tryz.params4] at hA hval
  obtain ⟨v0, vs0, d0, ds0, p0, q0, hargs, rfl, rfl, h0, r0⟩ := trodAll_cons hA
  obtain ⟨v1, vs1, d1, ds1, p1, q1, rfl, rfl, rfl, h1, r1⟩ := trodAll_cons r0
  obtain ⟨v2, vs2, d2, ds2, p2, q2, rfl, rfl, rfl, h2, r2⟩ := trodAll_cons r1
  obtain ⟨rfl, rfl, rfl⟩ := trodAll_nil r2
  obtain rfl : args = #[v0, v1, v2] := by cases args; simp_all
  obtain ⟨rfl, rfl⟩ := trodVars_none hV
  obtain ⟨cs0, rfl, hsz0⟩ := okWide_struct Tryz.underlying25 (hval 0 25 v0 rfl rfl)
  have k0 := h0
  have lt0 : ∀ x ∈ p0, x.block < W.heap.size := by obtain ⟨m, hm⟩ := k0; exact DataW.trod_lt m _ _ _ hm
  obtain ⟨g0, av0, tv0, ms0, eg0, rg0⟩ := game_trod h0
  rw [eg0] at k0 hW' ⊢
  obtain ⟨a1, len1, cap1, rfl⟩ := okWide_slice Tryz.underlying26 (hval 1 26 v1 rfl rfl)
  have k1 := h1
  have lt1 : ∀ x ∈ p1, x.block < W.heap.size := by obtain ⟨m, hm⟩ := k1; exact DataW.trod_lt m _ _ _ hm
  obtain ⟨ms1, rg1⟩ := dos_open h1
  obtain ⟨cs2, rfl, hsz2⟩ := okWide_struct Tryz.underlying29 (hval 2 29 v2 rfl rfl)
  have k2 := h2
  have lt2 : ∀ x ∈ p2, x.block < W.heap.size := by obtain ⟨m, hm⟩ := k2; exact DataW.trod_lt m _ _ _ hm
  obtain ⟨dm2, db2, dx2, dr2, eg2, rg2, sz2⟩ := resI_open h2
  rw [eg2] at k2 hW' ⊢
  clear hA0 hval0
  refine (finds33_walk g0 av0 tv0 ms0 _ ms1 dm2 db2 dx2 dr2 W rg0 rg1 rg2 sz2).mono fun e W' ⟨he, bel⟩ => ?_
  subst he
  exact ⟨_, rfl, _, _, _, [], _, [], hW', trodAll_mk1 (shut_bool Tryz.underlying4 _), (trodAll_cons_mk (Below.trod laidOut (by kernel_rfl) (of_decide_eq_true (by kernel_rfl)) k0 bel lt0) (trodAll_cons_mk (Below.trod laidOut (by kernel_rfl) (of_decide_eq_true (by kernel_rfl)) k1 bel lt1) (trodAll_cons_mk (Below.trod laidOut (by kernel_rfl) (of_decide_eq_true (by kernel_rfl)) k2 bel lt2) trodAll_mk0))), rfl, bel.frame _, fun h => by cases h⟩

theorem over : Rows.indexFindsRow.holds Tryz.pinned (OpenSpec.ofChange Rows.indexFindsSpec) :=
  OpenClaim.holds_of_wide 4 Tryz.f4 rfl rfl rfl rfl rfl rfl rfl ⟨rfl, rfl, rfl, rfl, rfl⟩ rfl rfl rfl rfl rfl (by kernel_rfl) Tryz.func4 (by kernel_rfl)
    (of_decide_eq_true (by kernel_rfl)) (by unfold Func.isWrapper; first | (rw [if_pos (by decide +kernel)]; kernel_rfl) | (rw [if_neg (by decide +kernel)]; exact ⟨rfl, rfl⟩))
    (fun os started H enc _ => lifted os started H enc)

theorem proved : Rows.IndexFindsSaid := over
#print axioms proved
end Go.Proofs.YtmocomkobbiflaaGreat.indexFinds
end

/- QuickpickTakes: for every input the Go function lotterylaw14.QuickpickTakes returns true, and each argument reads afterwards as before. Conditions: none. -/
import Derived.Test.YtokhhccokjfgjaaGreatRows
import Derived.WalkKit
import Derived.ProofKit
import Derived.OpenShut
import Derived.ChangeOld
import Derived.Below
import Derived.Test.YtokhhccokjfgjaaGreatGPick
import Derived.Test.YtokhhccokjfgjaaGreatGTrod

section
/- The walk of the statement QuickpickTakes: it returns true, whatever the game, the seed and the number. -/
open Go.RowKit
set_option linter.unusedVariables false
set_option linter.unusedSimpArgs false
namespace Go.Proofs.YtokhhccokjfgjaaGreat

theorem fr_ne {u : Value} {l : List Int} {B k : Nat} (h : Fr B u l) (hk : k < B) : l = [] ∨ u.ownBlock ≠ some k := by
  rcases h with h | ⟨j, h1, h2⟩
  · exact .inl h
  · exact .inr (fun e => by rw [h1] at e; injection e with e; omega)

set_option maxHeartbeats 4000000 in
set_option maxRecDepth 100000 in
theorem takes14_out (g : GameD) (av tv : Value) (ms : List AddonM) (x : Nat) (n : Int) (w : World) (h : GameR w av tv ms g) (hn : n < 0 ∨ 1000 < n) : Calls Tryz.prog 4 #[gameVal g av tv, .int .u64 (x : Int), .int .i64 n] w (BoolB true w) := by
  have cF := hide (fun X (hX : GameR X av tv ms g) => few14_any g av tv ms X hX)
  have hh := hide h
  obtain ⟨aa, ac, rfl, hal, ham⟩ := h.1.1.shape
  obtain ⟨ta, tc, rfl, htl, htm⟩ := h.2.2.shape
  clear h
  unfold gameVal at cF
  rcases hn with hn | hn
  all_goals
    unfold gameVal
    go_enter Tryz.func4, Tryz.ntmps4
    go_upto_region 1 with (fail)
    obtain ⟨W, hW⟩ : ∃ W, W = (w.alloc (Obj.cells #[.string g.name, .int .i64 g.kind, .int .i64 g.price, .int .i64 g.main, .int .i64 g.of, .int .i64 g.bonus, .int .i64 g.bonusOf, .int .i64 g.extra, .int .i64 g.draws, .int .i64 g.system, .int .i64 g.days, .int .i64 g.at_, .int .i64 g.close, .int .i64 g.cancel, .int .i64 g.expiry, .int .i64 g.pool, .int .i64 g.reserve, .int .i64 g.round, .int .i64 g.cap, .int .i64 g.rolls, (.slice aa ms.length ac), (.slice ta g.tiers.length tc)] 25)) := ⟨_, rfl⟩
    have bW : Below w.heap.size w W := by rw [hW]; exact Bel.al (Below.refl _ _) _
    have r0 : GameAt W (w.heap.size) g ((.slice aa ms.length ac)) ((.slice ta g.tiers.length tc)) := by rw [hW]; exact Row.new _ _ _
    have sW : w.heap.size < W.heap.size := by rw [hW]; simp
    rw [← hW]
    clear hW
    go_wp2_with (first | (refine wpList_load_row rfl 25 _ rfl _ rfl _ _ _ _ r0 Tryz.underlying25 rfl (by kernel_rfl) ?_) | fail)
    refine (cF.out _ (hh.out.below bW)).mono ?_
    rintro e w1 ⟨q, rfl, b1⟩
    have B1 := Bel.to bW b1
    replace r0 := r0.keep b1
    clear bW b1 cF sW
    cases q
    all_goals
      go_wp2_with fail
      refine (awake14_any _).mono ?_
      rintro e w7 ⟨rfl, b7⟩
      go_wp2
      go_ret
      exact ⟨rfl, Bel.to B1 b7⟩

set_option maxHeartbeats 8000000 in
set_option maxRecDepth 100000 in
theorem takes14_ok (g : GameD) (av tv : Value) (ms : List AddonM) (x N : Nat) (w : World) (h : GameR w av tv ms g) (hN : N ≤ 1000) (he : gameE g = 0) : Calls Tryz.prog 4 #[gameVal g av tv, .int .u64 (x : Int), .int .i64 (N : Int)] w (BoolB true w) := by
  have cF := hide (fun X (hX : GameR X av tv ms g) => few14_any g av tv ms X hX)
  have cQ := hide (fun b st X (hX : GameR X av tv ms g) (hs : StA 58 X b st) => qline_ok g av tv ms b st X hX hs he)
  have cK := hide (fun b st X (hX : GameR X av tv ms g) (hs : StA 60 X b st) => rline_ok g av tv ms b st X hX hs he)
  replace he := hide he
  have c1 := hide (fun X => snew_any x X)
  have c2 := hide (fun X => rnew_any x X)
  have a1 : (0 : Int) ≤ (N : Int) := by omega
  have a2 : (N : Int) ≤ 1000 := by omega
  have hh := hide h
  obtain ⟨aa, ac, rfl, hal, ham⟩ := h.1.1.shape
  obtain ⟨ta, tc, rfl, htl, htm⟩ := h.2.2.shape
  clear h
  unfold gameVal at cF cQ cK
  unfold gameVal
  go_enter Tryz.func4, Tryz.ntmps4
  go_upto_region 1 with (fail)
  obtain ⟨W, hW⟩ : ∃ W, W = (w.alloc (Obj.cells #[.string g.name, .int .i64 g.kind, .int .i64 g.price, .int .i64 g.main, .int .i64 g.of, .int .i64 g.bonus, .int .i64 g.bonusOf, .int .i64 g.extra, .int .i64 g.draws, .int .i64 g.system, .int .i64 g.days, .int .i64 g.at_, .int .i64 g.close, .int .i64 g.cancel, .int .i64 g.expiry, .int .i64 g.pool, .int .i64 g.reserve, .int .i64 g.round, .int .i64 g.cap, .int .i64 g.rolls, (.slice aa ms.length ac), (.slice ta g.tiers.length tc)] 25)) := ⟨_, rfl⟩
  have bW : Below w.heap.size w W := by rw [hW]; exact Bel.al (Below.refl _ _) _
  have r0 : GameAt W (w.heap.size) g ((.slice aa ms.length ac)) ((.slice ta g.tiers.length tc)) := by rw [hW]; exact Row.new _ _ _
  have sW : w.heap.size < W.heap.size := by rw [hW]; simp
  rw [← hW]
  clear hW
  go_wp2_with (first | (refine wpList_load_row rfl 25 _ rfl _ rfl _ _ _ _ r0 Tryz.underlying25 rfl (by kernel_rfl) ?_) | fail)
  refine (cF.out _ (hh.out.below bW)).mono ?_
  rintro e w1 ⟨q, rfl, b1⟩
  have B1 := Bel.to bW b1
  replace r0 := r0.keep b1
  clear bW b1 cF sW
  cases q with
  | false =>
    go_wp2_with fail
    refine (awake14_any _).mono ?_
    rintro e w7 ⟨rfl, b7⟩
    go_wp2
    go_ret
    exact ⟨rfl, Bel.to B1 b7⟩
  | true =>
    go_wp2_with fail
    refine (c1.out _).mono ?_
    rintro e w2 ⟨rfl, s2, b2, z2⟩
    obtain ⟨sb, hsb⟩ : ∃ p, p = w1.heap.size := ⟨_, rfl⟩
    have hs0 : w.heap.size < sb := by rw [hsb]; exact r0.lt
    rw [← hsb] at s2 ⊢
    have B2 := Bel.to B1 b2
    replace r0 := r0.keep b2
    have hs1 : sb < w2.heap.size := s2.lt
    clear hsb B1 b2 z2
    go_wp2_with fail
    refine (c2.out _).mono ?_
    rintro e w3 ⟨rfl, v3, b3, z3⟩
    obtain ⟨vb, hvb⟩ : ∃ p, p = w2.heap.size := ⟨_, rfl⟩
    rw [← hvb] at v3 hs1 ⊢
    have B3 := Bel.to B2 b3
    have s3 := s2.keep b3
    have r3 := r0.keep b3
    clear hvb B2 b3 z3 s2 r0
    go_wp2
    go_loopg [30] N (fun gh t wr => ∃ (k : Nat) (st : St), gh = N - k ∧ k ≤ N ∧ t = .int .i64 (k : Int) ∧ StA 58 wr sb st ∧ StA 60 wr vb st ∧ GameAt wr w.heap.size g (.slice aa ms.length ac) (.slice ta g.tiers.length tc) ∧ Below w.heap.size w wr)
    case atStart => exact ⟨0, (x, 0), rfl, Nat.zero_le _, rfl, s3, v3, r3, B3⟩
    case round =>
      obtain ⟨k, st, hgh, hk, rfl, sR, vR, r0, hB⟩ := hrel
      replace hgh := hide hgh
      by_cases hlt : k < N
      · have hlt2 := hide hlt
        have n1 := hide (snext_any sb st wr sR)
        go_wp2_with fail
        refine n1.out.mono ?_
        rintro e wa ⟨rfl, sa, ga⟩
        have va : StA 60 wa vb st := Row.grown vR ga (by intro e; injection e with e; omega)
        have ra : GameAt wa w.heap.size g (.slice aa ms.length ac) (.slice ta g.tiers.length tc) := Row.grown r0 ga (by intro e; injection e with e; omega)
        have Ba := Gb.bel hB ga (Nat.le_of_lt hs0)
        have n2 := hide (rnext_any vb st wa va)
        clear ga sR vR r0 hB n1
        go_wp2_with fail
        refine n2.out.mono ?_
        rintro e wb ⟨rfl, vb2, gb⟩
        have sb2 : StA 58 wb sb (stepS st) := Row.grown sa gb (by intro e; injection e with e; omega)
        have rb : GameAt wb w.heap.size g (.slice aa ms.length ac) (.slice ta g.tiers.length tc) := Row.grown ra gb (by intro e; injection e with e; omega)
        have Bb := Gb.bel Ba gb (by omega)
        clear gb sa va ra Ba n2
        go_wp2
        go_roundg (N - (k + 1))
        case measure => have := hgh.out; have := hlt2.out; omega
        case rel => exact ⟨k + 1, stepS st, rfl, by have := hlt2.out; omega, by go_num, sb2, vb2, rb, Bb⟩
      · have hkn : k = N := by omega
        replace hkn := hide hkn
        have cA := hide (cQ.out sb st wr (hh.out.below hB) sR)
        have cB0 := hide (fun X (hX : GameR X (.slice aa ms.length ac) (.slice ta g.tiers.length tc) ms g) (hs : StA 60 X vb st) => cK.out vb st X hX hs)
        obtain ⟨R, hR⟩ : ∃ R, R = lineQ g st := ⟨_, rfl⟩
        rw [← hR] at cA cB0
        clear hR
        obtain ⟨⟨⟨a, b⟩, c⟩, st'⟩ := R
        (try simp only [] at cA cB0)
        go_wp2_with (first | (refine wpList_load_row rfl 25 _ rfl _ rfl _ _ _ _ r0 Tryz.underlying25 rfl (by kernel_rfl) ?_) | fail)
        refine cA.out.mono ?_
        rintro e w4 ⟨u, v, rfl, hlr, fu, fv, s4, g4⟩
        simp only [] at hlr fu fv s4
        have hvlt : vb < wr.heap.size := vR.lt
        have v4 : StA 60 w4 vb st := Row.grown vR g4 (by intro e; injection e with e; omega)
        have r4 : GameAt w4 w.heap.size g (.slice aa ms.length ac) (.slice ta g.tiers.length tc) := Row.grown r0 g4 (by intro e; injection e with e; omega)
        have B4 := Gb.bel hB g4 (Nat.le_of_lt hs0)
        have z4 : wr.heap.size ≤ w4.heap.size := g4.size
        have nu := fr_ne fu hvlt
        have nv := fr_ne fv hvlt
        replace nu := hide nu
        replace nv := hide nv
        obtain ⟨u1, u2, u3, rfl⟩ := Rd.shape hlr.1
        obtain ⟨v1, v2, v3, rfl⟩ := Rd.shape hlr.2
        clear g4 fu fv sR vR r0 hB cA
        unfold lineVal
        go_upto_region 10 with (fail)
        obtain ⟨W5, hW5⟩ : ∃ W5, W5 = w4.alloc (Obj.cells #[.slice u1 u2 u3, .slice v1 v2 v3] 42) := ⟨_, rfl⟩
        have bb5 : Below w4.heap.size w4 W5 := by rw [hW5]; exact Bel.al (Below.refl _ _) _
        obtain ⟨p, hp⟩ : ∃ p, p = w4.heap.size := ⟨_, rfl⟩
        have l5 : LineAt W5 p (.slice u1 u2 u3) (.slice v1 v2 v3) := by rw [hW5, hp]; exact Row.new _ _ _
        rw [← hW5]
        rw [← hp]
        have hp2 : wr.heap.size ≤ p := by rw [hp]; omega
        clear hW5 hp
        have s5 := s4.keep bb5
        have v5 := v4.keep bb5
        have r5 := r4.keep bb5
        have B5 := Bel.to B4 bb5
        have hl5 := hlr.below bb5
        have z5 : wr.heap.size ≤ W5.heap.size := Nat.le_trans z4 bb5.size
        have cB := hide (cB0.out W5 (hh.out.below B5) v5)
        clear s4 v4 r4 B4 hlr bb5 cB0 z4
        go_wp2_with (first | (refine wpList_load_row rfl 25 _ rfl _ rfl _ _ _ _ r5 Tryz.underlying25 rfl (by kernel_rfl) ?_) | fail)
        refine cB.out.mono ?_
        rintro e w6 ⟨u', v', rfl, hlr6, fu6, fv6, v6, g6⟩
        simp only [] at hlr6 v6
        have s6 : StA 58 w6 sb st' := Row.grown s5 g6 (by intro e; injection e with e; omega)
        have l6 : LineAt w6 p (.slice u1 u2 u3) (.slice v1 v2 v3) := Row.grown l5 g6 (by intro e; injection e with e; omega)
        have hl6 : LineR w6 (.slice u1 u2 u3) (.slice v1 v2 v3) a b := ⟨hl5.1.grownA g6 nu.out, hl5.2.grownA g6 nv.out⟩
        have B6 := Gb.bel B5 g6 (by omega)
        have z6 : wr.heap.size ≤ w6.heap.size := Nat.le_trans z5 g6.size
        obtain ⟨p1, p2, p3, rfl⟩ := Rd.shape hlr6.1
        obtain ⟨q1, q2, q3, rfl⟩ := Rd.shape hlr6.2
        clear g6 fu6 fv6 s5 v5 r5 B5 hl5 l5 cB nu nv z5
        unfold lineVal
        go_upto_region 11 with (fail)
        obtain ⟨W7, hW7⟩ : ∃ W7, W7 = w6.alloc (Obj.cells #[.slice p1 p2 p3, .slice q1 q2 q3] 42) := ⟨_, rfl⟩
        have bb7 : Below w6.heap.size w6 W7 := by rw [hW7]; exact Bel.al (Below.refl _ _) _
        obtain ⟨p2b, hp2b⟩ : ∃ p, p = w6.heap.size := ⟨_, rfl⟩
        have l7 : LineAt W7 p2b (.slice p1 p2 p3) (.slice q1 q2 q3) := by rw [hW7, hp2b]; exact Row.new _ _ _
        rw [← hW7]
        rw [← hp2b]
        have hp2b2 : wr.heap.size ≤ p2b := by rw [hp2b]; omega
        clear hW7 hp2b
        have s7 := s6.keep bb7
        have v7 := v6.keep bb7
        have l67 := l6.keep bb7
        have B7 := Bel.to B6 bb7
        have cS := hide (same13_self _ _ _ _ a b W7 (hl6.below bb7) (hlr6.below bb7))
        unfold lineVal at cS
        have x0 := l67.main
        have x1 := l67.bonus
        have y0 := l7.main
        have y1 := l7.bonus
        clear s6 v6 l6 l67 l7 B6 hl6 hlr6 bb7 z6
        go_wp2_with fail
        refine cS.out.mono ?_
        rintro e w8 ⟨rfl, b8⟩
        have s8 := s7.keep b8
        have v8 := v7.keep b8
        have B8 := Bel.to B7 b8
        have k1 := hide (sused_any sb st' w8 s8)
        have k2 := hide (rused_any vb st' w8 v8)
        have k3 := hide (snext_any sb st' w8 s8)
        clear s7 v7 B7 b8 cS x0 x1 y0 y1
        go_wp2_with fail
        refine k1.out.mono ?_
        rintro e w9 ⟨rfl, rfl⟩
        go_wp2_with fail
        refine k2.out.mono ?_
        rintro e w10 ⟨rfl, rfl⟩
        go_wp2_with fail
        refine k3.out.mono ?_
        rintro e w11 ⟨rfl, s11, g11⟩
        have v11 : StA 60 w11 vb st' := Row.grown v8 g11 (by intro e; injection e with e; omega)
        have B11 := Gb.bel B8 g11 (Nat.le_of_lt hs0)
        have k4 := hide (rnext_any vb st' w11 v11)
        clear g11 s8 v8 B8 k1 k2 k3 s11
        go_wp2_with fail
        refine k4.out.mono ?_
        rintro e w12 ⟨rfl, v12, g12⟩
        have B12 := Gb.bel B11 g12 (by omega)
        clear g12 v12 v11 B11 k4
        go_wp2_with fail
        refine (awake14_any _).mono ?_
        rintro e w7 ⟨rfl, b7⟩
        go_wp2
        go_ret
        exact ⟨rfl, Bel.to B12 b7⟩

set_option maxHeartbeats 8000000 in
set_option maxRecDepth 100000 in
theorem takes14_bad (g : GameD) (av tv : Value) (ms : List AddonM) (x N : Nat) (w : World) (h : GameR w av tv ms g) (hN : N ≤ 1000) (he : gameE g ≠ 0) : Calls Tryz.prog 4 #[gameVal g av tv, .int .u64 (x : Int), .int .i64 (N : Int)] w (BoolB true w) := by
  have cF := hide (fun X (hX : GameR X av tv ms g) => few14_any g av tv ms X hX)
  have cQ := hide (fun p X (hX : GameR X av tv ms g) => qline_bad g av tv ms p X hX he)
  have cK := hide (fun p X (hX : GameR X av tv ms g) => rline_bad g av tv ms p X hX he)
  obtain ⟨c, hcc⟩ : ∃ c, c = gameE g := ⟨_, rfl⟩
  rw [← hcc] at cQ cK
  clear hcc
  replace he := hide he
  have c1 := hide (fun X => snew_any x X)
  have c2 := hide (fun X => rnew_any x X)
  have a1 : (0 : Int) ≤ (N : Int) := by omega
  have a2 : (N : Int) ≤ 1000 := by omega
  have hh := hide h
  obtain ⟨aa, ac, rfl, hal, ham⟩ := h.1.1.shape
  obtain ⟨ta, tc, rfl, htl, htm⟩ := h.2.2.shape
  clear h
  unfold gameVal at cF cQ cK
  unfold gameVal
  go_enter Tryz.func4, Tryz.ntmps4
  go_upto_region 1 with (fail)
  obtain ⟨W, hW⟩ : ∃ W, W = (w.alloc (Obj.cells #[.string g.name, .int .i64 g.kind, .int .i64 g.price, .int .i64 g.main, .int .i64 g.of, .int .i64 g.bonus, .int .i64 g.bonusOf, .int .i64 g.extra, .int .i64 g.draws, .int .i64 g.system, .int .i64 g.days, .int .i64 g.at_, .int .i64 g.close, .int .i64 g.cancel, .int .i64 g.expiry, .int .i64 g.pool, .int .i64 g.reserve, .int .i64 g.round, .int .i64 g.cap, .int .i64 g.rolls, (.slice aa ms.length ac), (.slice ta g.tiers.length tc)] 25)) := ⟨_, rfl⟩
  have bW : Below w.heap.size w W := by rw [hW]; exact Bel.al (Below.refl _ _) _
  have r0 : GameAt W (w.heap.size) g ((.slice aa ms.length ac)) ((.slice ta g.tiers.length tc)) := by rw [hW]; exact Row.new _ _ _
  have sW : w.heap.size < W.heap.size := by rw [hW]; simp
  rw [← hW]
  clear hW
  go_wp2_with (first | (refine wpList_load_row rfl 25 _ rfl _ rfl _ _ _ _ r0 Tryz.underlying25 rfl (by kernel_rfl) ?_) | fail)
  refine (cF.out _ (hh.out.below bW)).mono ?_
  rintro e w1 ⟨q, rfl, b1⟩
  have B1 := Bel.to bW b1
  replace r0 := r0.keep b1
  clear bW b1 cF sW
  cases q with
  | false =>
    go_wp2_with fail
    refine (awake14_any _).mono ?_
    rintro e w7 ⟨rfl, b7⟩
    go_wp2
    go_ret
    exact ⟨rfl, Bel.to B1 b7⟩
  | true =>
    go_wp2_with fail
    refine (c1.out _).mono ?_
    rintro e w2 ⟨rfl, s2, b2, z2⟩
    obtain ⟨sb, hsb⟩ : ∃ p, p = w1.heap.size := ⟨_, rfl⟩
    have hs0 : w.heap.size < sb := by rw [hsb]; exact r0.lt
    rw [← hsb] at s2 ⊢
    have B2 := Bel.to B1 b2
    replace r0 := r0.keep b2
    have hs1 : sb < w2.heap.size := s2.lt
    clear hsb B1 b2 z2
    go_wp2_with fail
    refine (c2.out _).mono ?_
    rintro e w3 ⟨rfl, v3, b3, z3⟩
    obtain ⟨vb, hvb⟩ : ∃ p, p = w2.heap.size := ⟨_, rfl⟩
    rw [← hvb] at v3 hs1 ⊢
    have B3 := Bel.to B2 b3
    have s3 := s2.keep b3
    have r3 := r0.keep b3
    clear hvb B2 b3 z3 s2 r0
    go_wp2
    go_loopg [30] N (fun gh t wr => ∃ (k : Nat) (st : St), gh = N - k ∧ k ≤ N ∧ t = .int .i64 (k : Int) ∧ StA 58 wr sb st ∧ StA 60 wr vb st ∧ GameAt wr w.heap.size g (.slice aa ms.length ac) (.slice ta g.tiers.length tc) ∧ Below w.heap.size w wr)
    case atStart => exact ⟨0, (x, 0), rfl, Nat.zero_le _, rfl, s3, v3, r3, B3⟩
    case round =>
      obtain ⟨k, st, hgh, hk, rfl, sR, vR, r0, hB⟩ := hrel
      replace hgh := hide hgh
      by_cases hlt : k < N
      · have hlt2 := hide hlt
        have n1 := hide (snext_any sb st wr sR)
        go_wp2_with fail
        refine n1.out.mono ?_
        rintro e wa ⟨rfl, sa, ga⟩
        have va : StA 60 wa vb st := Row.grown vR ga (by intro e; injection e with e; omega)
        have ra : GameAt wa w.heap.size g (.slice aa ms.length ac) (.slice ta g.tiers.length tc) := Row.grown r0 ga (by intro e; injection e with e; omega)
        have Ba := Gb.bel hB ga (Nat.le_of_lt hs0)
        have n2 := hide (rnext_any vb st wa va)
        clear ga sR vR r0 hB n1
        go_wp2_with fail
        refine n2.out.mono ?_
        rintro e wb ⟨rfl, vb2, gb⟩
        have sb2 : StA 58 wb sb (stepS st) := Row.grown sa gb (by intro e; injection e with e; omega)
        have rb : GameAt wb w.heap.size g (.slice aa ms.length ac) (.slice ta g.tiers.length tc) := Row.grown ra gb (by intro e; injection e with e; omega)
        have Bb := Gb.bel Ba gb (by omega)
        clear gb sa va ra Ba n2
        go_wp2
        go_roundg (N - (k + 1))
        case measure => have := hgh.out; have := hlt2.out; omega
        case rel => exact ⟨k + 1, stepS st, rfl, by have := hlt2.out; omega, by go_num, sb2, vb2, rb, Bb⟩
      · have hkn : k = N := by omega
        replace hkn := hide hkn
        have cA := hide (cQ.out (some ⟨sb, 0, none⟩) wr (hh.out.below hB))
        go_wp2_with (first | (refine wpList_load_row rfl 25 _ rfl _ rfl _ _ _ _ r0 Tryz.underlying25 rfl (by kernel_rfl) ?_) | fail)
        refine cA.out.mono ?_
        rintro e w4 ⟨rfl, b4⟩
        have s4 := sR.keep b4
        have v4 := vR.keep b4
        have r4 := r0.keep b4
        have B4 := Bel.to hB b4
        have z4 : wr.heap.size ≤ w4.heap.size := b4.size
        clear b4 sR vR r0 hB cA
        unfold lineVal
        go_upto_region 10 with (fail)
        obtain ⟨W5, hW5⟩ : ∃ W5, W5 = w4.alloc (Obj.cells #[.slice none 0 0, .slice none 0 0] 42) := ⟨_, rfl⟩
        have bb5 : Below w4.heap.size w4 W5 := by rw [hW5]; exact Bel.al (Below.refl _ _) _
        obtain ⟨p, hp⟩ : ∃ p, p = w4.heap.size := ⟨_, rfl⟩
        have l5 : LineAt W5 p (.slice none 0 0) (.slice none 0 0) := by rw [hW5, hp]; exact Row.new _ _ _
        rw [← hW5]
        rw [← hp]
        have hp2 : wr.heap.size ≤ p := by rw [hp]; omega
        clear hW5 hp
        have s5 := s4.keep bb5
        have v5 := v4.keep bb5
        have r5 := r4.keep bb5
        have B5 := Bel.to B4 bb5
        have z5 : wr.heap.size ≤ W5.heap.size := Nat.le_trans z4 bb5.size
        have cB := hide (cK.out (some ⟨vb, 0, none⟩) W5 (hh.out.below B5))
        clear s4 v4 r4 B4 bb5 z4
        go_wp2_with (first | (refine wpList_load_row rfl 25 _ rfl _ rfl _ _ _ _ r5 Tryz.underlying25 rfl (by kernel_rfl) ?_) | fail)
        refine cB.out.mono ?_
        rintro e w6 ⟨rfl, b6⟩
        have s6 := s5.keep b6
        have v6 := v5.keep b6
        have l6 := l5.keep b6
        have B6 := Bel.to B5 b6
        have z6 : wr.heap.size ≤ w6.heap.size := Nat.le_trans z5 b6.size
        clear b6 s5 v5 r5 B5 l5 cB z5
        unfold lineVal
        go_upto_region 11 with (fail)
        obtain ⟨W7, hW7⟩ : ∃ W7, W7 = w6.alloc (Obj.cells #[.slice none 0 0, .slice none 0 0] 42) := ⟨_, rfl⟩
        have bb7 : Below w6.heap.size w6 W7 := by rw [hW7]; exact Bel.al (Below.refl _ _) _
        obtain ⟨p2b, hp2b⟩ : ∃ p, p = w6.heap.size := ⟨_, rfl⟩
        have l7 : LineAt W7 p2b (.slice none 0 0) (.slice none 0 0) := by rw [hW7, hp2b]; exact Row.new _ _ _
        rw [← hW7]
        rw [← hp2b]
        have hp2b2 : wr.heap.size ≤ p2b := by rw [hp2b]; omega
        clear hW7 hp2b
        have s7 := s6.keep bb7
        have v7 := v6.keep bb7
        have l67 := l6.keep bb7
        have B7 := Bel.to B6 bb7
        have cS := hide (same13_self (.slice none 0 0) (.slice none 0 0) (.slice none 0 0) (.slice none 0 0) [] [] W7 ⟨Rd.nil, Rd.nil⟩ ⟨Rd.nil, Rd.nil⟩)
        unfold lineVal at cS
        have x0 := l67.main
        have x1 := l67.bonus
        have y0 := l7.main
        have y1 := l7.bonus
        clear s6 v6 l6 l67 l7 B6 bb7 z6
        go_wp2_with fail
        refine cS.out.mono ?_
        rintro e w8 ⟨rfl, b8⟩
        have s8 := s7.keep b8
        have v8 := v7.keep b8
        have B8 := Bel.to B7 b8
        have k1 := hide (sused_any sb st w8 s8)
        have k2 := hide (rused_any vb st w8 v8)
        have k3 := hide (snext_any sb st w8 s8)
        clear s7 v7 B7 b8 cS x0 x1 y0 y1
        go_wp2_with fail
        refine k1.out.mono ?_
        rintro e w9 ⟨rfl, rfl⟩
        go_wp2_with fail
        refine k2.out.mono ?_
        rintro e w10 ⟨rfl, rfl⟩
        go_wp2_with fail
        refine k3.out.mono ?_
        rintro e w11 ⟨rfl, s11, g11⟩
        have v11 : StA 60 w11 vb st := Row.grown v8 g11 (by intro e; injection e with e; omega)
        have B11 := Gb.bel B8 g11 (Nat.le_of_lt hs0)
        have k4 := hide (rnext_any vb st w11 v11)
        clear g11 s8 v8 B8 k1 k2 k3 s11
        go_wp2_with fail
        refine k4.out.mono ?_
        rintro e w12 ⟨rfl, v12, g12⟩
        have B12 := Gb.bel B11 g12 (by omega)
        clear g12 v12 v11 B11 k4
        go_wp2_with fail
        refine (awake14_any _).mono ?_
        rintro e w7 ⟨rfl, b7⟩
        go_wp2
        go_ret
        exact ⟨rfl, Bel.to B12 b7⟩

theorem takes14_any (g : GameD) (av tv : Value) (ms : List AddonM) (x n : Int) (w : World) (h : GameR w av tv ms g) (h0 : 0 ≤ x) (hx : x ≤ 18446744073709551615) : Calls Tryz.prog 4 #[gameVal g av tv, .int .u64 x, .int .i64 n] w (BoolB true w) := by
  obtain ⟨x, rfl⟩ := Int.eq_ofNat_of_zero_le h0
  by_cases hn : n < 0 ∨ 1000 < n
  · exact takes14_out g av tv ms x n w h hn
  · obtain ⟨N, rfl⟩ := Int.eq_ofNat_of_zero_le (show 0 ≤ n by omega)
    by_cases he : gameE g = 0
    · exact takes14_ok g av tv ms x N w h (by omega) he
    · exact takes14_bad g av tv ms x N w h (by omega) he
end Go.Proofs.YtokhhccokjfgjaaGreat
end

section
/- QuickpickTakes: for every input the Go function lotterylaw14.QuickpickTakes returns true, and each argument reads afterwards as before. Conditions: none. -/
namespace Go.Proofs.YtokhhccokjfgjaaGreat.quickpickTakes
open Go.ChangeShapes Go.WideShapes Go.ChangeAt Go.RowKit
set_option linter.unusedVariables false

theorem own : ownKnob Tryz.prog.godebug = none := by kernel_rfl
theorem laidOut : laidOutB Tryz.prog = true := by kernel_rfl

set_option maxRecDepth 100000 in
theorem lifted (os : Os) (started : os.Started) (H : Type) (enc : TypeId × Value → H) :
    ReturnsInHanded {} Tryz.checked os 4 .any (Rows.quickpickTakesSpec.pre6 enc Tryz.prog Tryz.f4 Rows.quickpickTakesRow.domain false) (Rows.quickpickTakesSpec.post enc Tryz.prog Tryz.f4 false true false false) := by
  refine returnsInHanded_of_change (C := Tryz.checked) own started (by kernel_rfl) Tryz.func4
    (ChangeSpec.witness6 (enc := enc) (C := Tryz.checked) false ⟨#[], #[.agg #[.string ⟨#[]⟩, .int .i64 0, .int .i64 0, .int .i64 0, .int .i64 0, .int .i64 0, .int .i64 0, .int .i64 0, .int .i64 0, .int .i64 0, .int .i64 0, .int .i64 0, .int .i64 0, .int .i64 0, .int .i64 0, .int .i64 0, .int .i64 0, .int .i64 0, .int .i64 0, .int .i64 0, .slice none 0 0, .slice none 0 0], .int .u64 0, .int .i64 0], []⟩ 8 (by kernel_rfl) (by kernel_rfl) (by kernel_rfl) (by kernel_rfl)) ?_
  intro W base args ds gs before hval0 hW hcnd _
  have hval : ∀ (j : Nat) t v, Tryz.f4.params[j]? = some t → args[j]? = some v → Value.okWide Tryz.prog W .any base t v := hval0
  have hW' := hW
  obtain ⟨p, q, hA0, hV, rfl, hfz, hnd⟩ := hW
  have hA : DataW.TrodAll enc Tryz.prog W 0 (fun _ => true) true Tryz.f4.params.toList args.toList ds p := hA0
  rw [Tryz.params4] at hA hval
  obtain ⟨v0, vs0, d0, ds0, p0, q0, hargs, rfl, rfl, h0, r0⟩ := trodAll_cons hA
  obtain ⟨v1, vs1, d1, ds1, p1, q1, rfl, rfl, rfl, h1, r1⟩ := trodAll_cons r0
  obtain ⟨v2, vs2, d2, ds2, p2, q2, rfl, rfl, rfl, h2, r2⟩ := trodAll_cons r1
  obtain ⟨rfl, rfl, rfl⟩ := trodAll_nil r2
  obtain rfl : args = #[v0, v1, v2] := by cases args; simp_all
  obtain ⟨rfl, rfl⟩ := trodVars_none hV
  obtain ⟨cs0, rfl, hsz0⟩ := okWide_struct Tryz.underlying25 (hval 0 25 v0 rfl rfl)
  have k0 := h0
  have lt0 : ∀ x ∈ p0, x.block < W.heap.size := by obtain ⟨m, hm⟩ := k0; exact DataW.trod_lt m _ _ _ hm
  obtain ⟨g0, av0, tv0, ms0, eg0, rg0⟩ := game_trod h0
  rw [eg0] at k0 hW' ⊢
  obtain ⟨a1, rfl, rfl, rfl, w1⟩ := open_int Tryz.underlying26 (hval 1 26 v1 rfl rfl) h1
  have b1 := bounds_u64 w1
  obtain ⟨a2, rfl, rfl, rfl, w2⟩ := open_int Tryz.underlying3 (hval 2 3 v2 rfl rfl) h2
  have b2 := bounds_i64 w2
  clear hA0 hval0
  refine (takes14_any g0 av0 tv0 ms0 a1 a2 W rg0 (by omega) (by omega)).mono fun e W' ⟨he, bel⟩ => ?_
  subst he
  exact ⟨_, rfl, _, _, _, [], _, [], hW', trodAll_mk1 (shut_bool Tryz.underlying4 _), (trodAll_cons_mk (Below.trod laidOut (by kernel_rfl) (of_decide_eq_true (by kernel_rfl)) k0 bel lt0) (trodAll_cons_mk (shut_int Tryz.underlying26 w1) (trodAll_cons_mk (shut_int Tryz.underlying3 w2) trodAll_mk0))), rfl, bel.frame _, fun h => by cases h⟩

theorem over : Rows.quickpickTakesRow.holds Tryz.pinned (OpenSpec.ofChange Rows.quickpickTakesSpec) :=
  OpenClaim.holds_of_wide 4 Tryz.f4 rfl rfl rfl rfl rfl rfl rfl ⟨rfl, rfl, rfl, rfl, rfl⟩ rfl rfl rfl rfl rfl (by kernel_rfl) Tryz.func4 (by kernel_rfl)
    (of_decide_eq_true (by kernel_rfl)) (by unfold Func.isWrapper; first | (rw [if_pos (by decide +kernel)]; kernel_rfl) | (rw [if_neg (by decide +kernel)]; exact ⟨rfl, rfl⟩))
    (fun os started H enc _ => lifted os started H enc)

theorem proved : Rows.QuickpickTakesSaid := over
#print axioms proved
end Go.Proofs.YtokhhccokjfgjaaGreat.quickpickTakes
end

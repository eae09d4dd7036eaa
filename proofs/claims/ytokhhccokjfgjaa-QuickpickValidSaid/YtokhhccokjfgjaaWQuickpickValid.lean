/- QuickpickValid: for every input the Go function lotterylaw14.QuickpickValid returns true, and each argument reads afterwards as before. Conditions: none. -/
import Derived.Test.YtokhhccokjfgjaaRows
import Derived.WalkKit
import Derived.ProofKit
import Derived.OpenShut
import Derived.ChangeOld
import Derived.Below
import Derived.Test.YtokhhccokjfgjaaGPick
import Derived.Test.YtokhhccokjfgjaaGLine
import Derived.Test.YtokhhccokjfgjaaGTrod

section
/- The walk of the statement QuickpickValid: it returns true, whatever the game, the seed and the number. -/
open Go.RowKit
set_option linter.unusedVariables false
set_option linter.unusedSimpArgs false
namespace Go.Proofs.Ytokhhccokjfgjaa

theorem linesP_valid {g : GameD} {x : Nat} {n : Int} (h : (linesP g x n).2 = 0) : gameE g = 0 ∧ 0 ≤ n ∧ n ≤ 1024 ∧ ((linesP g x n).1.length : Int) = n ∧ ∀ y ∈ (linesP g x n).1, lineE g y.1 y.2 = 0 ∧ (g.kind ≠ 2 → sortI y.1 = y.1 ∧ sortI y.2 = y.2) := by
  unfold linesP at h ⊢
  by_cases he : gameE g = 0
  · rw [if_neg (by simpa using he)] at h ⊢
    by_cases hn : n < 0 ∨ 1024 < n
    · rw [if_pos hn] at h; exact absurd h (by simp)
    · rw [if_neg hn] at h ⊢
      have hv := linesQ_valid (g := g) (k := n.toNat) (acc := []) (s := (x, 0)) (P := fun y => lineE g y.1 y.2 = 0 ∧ (g.kind ≠ 2 → sortI y.1 = y.1 ∧ sortI y.2 = y.2)) (fun s hs => lineQ_valid he hs) (by simp) h
      obtain ⟨R, hR⟩ : ∃ R, R = linesQ g n.toNat [] (x, 0) := ⟨_, rfl⟩
      rw [← hR] at hv ⊢
      refine ⟨he, by omega, by omega, ?_, hv.2⟩
      rw [hv.1, List.length_nil]; omega
  · rw [if_pos he] at h; exact absurd h he

set_option maxHeartbeats 8000000 in
set_option maxRecDepth 100000 in
theorem valid14_any (g : GameD) (av tv : Value) (ms : List AddonM) (x n : Int) (w : World) (h : GameR w av tv ms g) (h0 : 0 ≤ x) (hx : x ≤ 18446744073709551615) : Calls Try.prog 9 #[gameVal g av tv, .int .u64 x, .int .i64 n] w (BoolB true w) := by
  clear hx
  obtain ⟨x, rfl⟩ := Int.eq_ofNat_of_zero_le h0
  have cF := hide (fun X (hX : GameR X av tv ms g) => few14_any g av tv ms X hX)
  have cL := hide (fun X (hX : GameR X av tv ms g) => qlines_any g av tv ms x n X hX)
  have cQ := hide (fun X mv bv a b (hX : GameR X av tv ms g) (hl : LineR X mv bv a b) => mlcheck_any g av tv mv bv ms a b X hX hl)
  have hv := linesP_valid (g := g) (x := x) (n := n)
  obtain ⟨R, hR⟩ : ∃ R, R = linesP g x n := ⟨_, rfl⟩
  rw [← hR] at cL hv
  clear hR
  obtain ⟨L, c⟩ := R
  simp only [] at cL hv
  replace hv := hide hv
  have hh := hide h
  obtain ⟨aa, ac, rfl, hal, ham⟩ := h.1.1.shape
  obtain ⟨ta, tc, rfl, htl, htm⟩ := h.2.2.shape
  clear h h0
  unfold gameVal at cF cL cQ
  unfold gameVal
  go_enter Try.func9, Try.ntmps9
  go_upto_region 1 with (fail)
  obtain ⟨W, hW⟩ : ∃ W, W = (w.alloc (Obj.cells #[.string g.name, .int .i64 g.kind, .int .i64 g.price, .int .i64 g.main, .int .i64 g.of, .int .i64 g.bonus, .int .i64 g.bonusOf, .int .i64 g.extra, .int .i64 g.draws, .int .i64 g.system, .int .i64 g.days, .int .i64 g.at_, .int .i64 g.close, .int .i64 g.cancel, .int .i64 g.expiry, .int .i64 g.pool, .int .i64 g.reserve, .int .i64 g.round, .int .i64 g.cap, .int .i64 g.rolls, (.slice aa ms.length ac), (.slice ta g.tiers.length tc)] 25)) := ⟨_, rfl⟩
  have bW : Below w.heap.size w W := by rw [hW]; exact Bel.al (Below.refl _ _) _
  have r0 : GameAt W (w.heap.size) g ((.slice aa ms.length ac)) ((.slice ta g.tiers.length tc)) := by rw [hW]; exact Row.new _ _ _
  have sW : w.heap.size < W.heap.size := by rw [hW]; simp
  rw [← hW]
  clear hW
  go_wp2_with (first | (refine wpList_load_row rfl 25 _ rfl _ rfl _ _ _ _ r0 Try.underlying25 rfl (by kernel_rfl) ?_) | fail)
  refine (cF.out _ (hh.out.below bW)).mono ?_
  rintro e w1 ⟨q, rfl, b1⟩
  have B1 := Bel.to bW b1
  replace r0 := r0.keep b1
  clear bW b1 cF sW
  cases q with
  | false =>
    go_wp2_with fail
    refine (awake14_any _).mono ?_
    rintro e w7 ⟨rfl, b7⟩
    go_wp2
    go_ret
    exact ⟨rfl, Bel.to B1 b7⟩
  | true =>
    go_wp2_with (first | (refine wpList_load_row rfl 25 _ rfl _ rfl _ _ _ _ r0 Try.underlying25 rfl (by kernel_rfl) ?_) | fail)
    refine (cL.out _ (hh.out.below B1)).mono ?_
    rintro e w2 ⟨va, rfl, hls, b2⟩
    have B2 := Bel.to B1 b2
    replace r0 := r0.keep b2
    clear B1 b2 cL
    obtain ⟨a1, c1, hva, hc1, hm1⟩ := hls.shape
    unfold maxLen at hm1
    by_cases hc : c = 0
    · subst hc
      obtain ⟨he, hn0, hn1, hlen, hall⟩ := hv.out rfl
      obtain ⟨N, rfl⟩ := Int.eq_ofNat_of_zero_le hn0
      have hN : L.length = N := by omega
      rw [hN] at hva hc1
      subst hva
      replace hls := hide hls
      replace he := hide he
      replace hN := hide hN
      replace hall := hide hall
      have hn9 : N ≤ 1024 := by omega
      clear hlen hn0 hn1
      go_wp2
      go_loopg [30] N (fun gh t wr => ∃ k : Nat, gh = N - k ∧ k ≤ N ∧ t = .int .i64 (k : Int) ∧ Below w2.heap.size w2 wr)
      case atStart => exact ⟨0, rfl, Nat.zero_le _, rfl, Below.refl _ _⟩
      case round =>
        obtain ⟨k, hgh, hk, rfl, hB⟩ := hrel
        replace hgh := hide hgh
        by_cases hlt : k < N
        · have hlt2 := hide hlt
          have hlk : k < L.length := by rw [hN.out]; exact hlt
          obtain ⟨b1, off1, mv, bv, rfl, hbb, x1, y1, hl⟩ := (hls.out.below hB).at_ hlk
          obtain ⟨hle, hcan⟩ := hall.out L[k] (List.getElem_mem _)
          obtain ⟨⟨a, b⟩, hab⟩ : ∃ y, y = L[k] := ⟨_, rfl⟩
          rw [← hab] at hl hle hcan
          clear hab
          simp only [] at hl hle hcan
          have hlok := lineE_ok.1 hle
          have hf := mat_facts (game_mat he.out)
          have ha10 : a.length ≤ 1000 := by have := hlok.2.1; omega
          have hb10 : b.length ≤ 1000 := by have := hlok.2.2.1; omega
          clear hlok hf
          have g1 : wr.rangeAt w.heap.size 0 (gameCells g (.slice aa ms.length ac) (.slice ta g.tiers.length tc)) := by
            have h9 := r0.keep hB
            intro j v hv
            rw [Nat.zero_add]
            exact (Row.cell? h9 j).trans hv
          have g2 : wr.rangeAt b1 (off1 + k * 2) [mv, bv] := by
            intro j v hv
            match j, hv with
            | 0, hv => simp at hv; subst hv; exact x1
            | 1, hv => simp at hv; subst hv; exact y1
          have BW := Bel.to B2 hB
          have cK := cQ.out wr.drew mv bv a b ((hh.out.below BW).below (Below.drewSelf _)) (hl.below (Below.drewSelf _))
          rw [hle] at cK
          replace cK := hide cK
          unfold lineVal at cK
          have j1 : (0 : Int) ≤ (k : Int) := by omega
          have j2 : (k : Int) < (N : Int) := by omega
          replace hle := hide hle
          replace hcan := hide hcan
          clear x1 y1
          go_upto_region 11 with (fail)
          refine wp_region_held_drew (S := fun X => X.rangeAt w.heap.size 0 (gameCells g (.slice aa ms.length ac) (.slice ta g.tiers.length tc)) ∧ X.rangeAt b1 (off1 + k * 2) [mv, bv]) (by kernel_rfl) (⟨g1, g2⟩) (fun hHeld => ?_)
          refine' wpAnyH_take (i := 0) (oi := _) (v := _) rfl (by kernel_rfl) (by kernel_rfl) (by kernel_rfl) (fun _ _ _ h => h) (yieldsIf_load_mid (by first | (go_simp; done) | rfl) 25 _ rfl _ _ rfl (gameCells g (.slice aa ms.length ac) (.slice ta g.tiers.length tc)) _ (fun X h => h.1) Try.underlying25 rfl (by kernel_rfl)) hHeld ?_
          try simp only [Act.put, List.setIfInBounds_toArray, List.set_cons_zero, List.set_cons_succ]
          refine' wpAnyH_take (i := 1) (oi := _) (v := .slice (some ⟨b1, off1, none⟩) N c1) rfl (by kernel_rfl) (by kernel_rfl) (by kernel_rfl) (fun _ _ _ h => h) (Or.inl ⟨by first | (go_simp; done) | rfl, fun X _ => by go_simp⟩) hHeld ?_
          try simp only [Act.put, List.setIfInBounds_toArray, List.set_cons_zero, List.set_cons_succ]
          refine' wpAnyH_take (i := 2) (oi := _) (v := .int .i64 (k : Int)) rfl (by kernel_rfl) (by kernel_rfl) (by kernel_rfl) (fun _ _ _ h => h) (Or.inl ⟨by first | (go_simp; done) | rfl, fun X _ => by go_simp⟩) hHeld ?_
          try simp only [Act.put, List.setIfInBounds_toArray, List.set_cons_zero, List.set_cons_succ]
          refine' wpAnyH_take (i := 3) (oi := _) (v := .pointer (some ⟨b1, off1 + k * 2, none⟩)) rfl (by kernel_rfl) (by kernel_rfl) (by kernel_rfl) (fun _ _ _ h => h) (Or.inl ⟨by first | (go_simp; done) | rfl, fun X _ => by go_simp⟩) hHeld ?_
          try simp only [Act.put, List.setIfInBounds_toArray, List.set_cons_zero, List.set_cons_succ]
          refine' wpAnyH_take (i := 4) (oi := _) (v := .agg #[mv, bv]) rfl (by kernel_rfl) (by kernel_rfl) (by kernel_rfl) (fun _ _ _ h => h) (by refine (yieldsIf_load_mid ?_ 28 (.tmp 36) rfl b1 (off1 + k * 2) ?_ ([mv, bv]) _ (fun X h => h.2) Try.underlying28 rfl (by kernel_rfl)) <;> go_simp) hHeld ?_
          try simp only [Act.put, List.setIfInBounds_toArray, List.set_cons_zero, List.set_cons_succ]
          refine wpAnyH_ready (rs := [5]) (by kernel_rfl) (by simp) ?_
          refine AllReadyH.cons (o := _) rfl (fun K hK => ?_) AllReadyH.nil
          go_simp
          refine (cK.out).mono ?_
          rintro e w3 ⟨rfl, hb3⟩
          go_wp2_with fail
          refine hK.out _ _ (⟨rangeAt_keep hHeld.1 hb3, rangeAt_keep hHeld.2 hb3⟩) (fun hHeld => ?_)
          clear hK K
          try simp only [Act.put, List.setIfInBounds_toArray, List.set_cons_zero, List.set_cons_succ]
          refine' wpAnyH_take (i := 6) (oi := _) (v := .bool false) rfl (by kernel_rfl) (by kernel_rfl) (by kernel_rfl) (fun _ _ _ h => h) (Or.inl ⟨by first | (go_simp; done) | rfl, fun X _ => by go_simp⟩) hHeld ?_
          try simp only [Act.put, List.setIfInBounds_toArray, List.set_cons_zero, List.set_cons_succ]
          refine wpAnyH_done (by kernel_rfl) ?_ _
          go_simp
          have b3 := Bel.to (Below.drewSelf wr) hb3
          have hl3 := hl.below b3
          have B3 := Bel.to BW b3
          have hB3 := Bel.to hB b3
          have d1 : w3.cell? ⟨w.heap.size, 1, none⟩ = some (.int .i64 g.kind) := ((r0.keep hB3)).kind
          replace g2 := rangeAt_keep g2 b3
          clear cK g1 hl BW hB hb3
          by_cases hk1 : g.kind = 1
          · have hkb : (g.kind == 1) = true := by simpa using hk1
            obtain ⟨s1, s2⟩ := hcan.out (by omega)
            have hl4 := hl3.below (Below.drewSelf w3)
            have cC := mcanon_any mv bv a b w3.drew hl4 ha10 hb10
            rw [s1, s2] at cC
            replace cC := hide cC
            unfold lineVal at cC
            replace hk1 := hide hk1
            clear s1 s2
            go_upto_region 13 with (fail)
            refine wp_region_held_drew (S := fun X => X.cell? ⟨w.heap.size, 1, none⟩ = some (.int .i64 g.kind) ∧ X.rangeAt b1 (off1 + k * 2) [mv, bv]) (by kernel_rfl) (⟨d1, g2⟩) (fun hHeld => ?_)
            refine' wpAnyH_take (i := 0) (oi := _) (v := .pointer (some ⟨w.heap.size, 1, none⟩)) rfl (by kernel_rfl) (by kernel_rfl) (by kernel_rfl) (fun _ _ _ h => h) (Or.inl ⟨by first | (go_simp; done) | rfl, fun X _ => by go_simp⟩) hHeld ?_
            try simp only [Act.put, List.setIfInBounds_toArray, List.set_cons_zero, List.set_cons_succ]
            refine' wpAnyH_take (i := 1) (oi := _) (v := .int .i64 g.kind) rfl (by kernel_rfl) (by kernel_rfl) (by kernel_rfl) (fun _ _ _ h => h) (Or.inl ⟨by first | (go_simp; done) | rfl, fun X hX => by have cX := hX.1; go_simp⟩) hHeld ?_
            try simp only [Act.put, List.setIfInBounds_toArray, List.set_cons_zero, List.set_cons_succ]
            refine' wpAnyH_take (i := 2) (oi := _) (v := .bool true) rfl (by kernel_rfl) (by kernel_rfl) (by kernel_rfl) (fun _ _ _ h => h) (Or.inl ⟨by first | (go_simp; done) | rfl, fun X _ => by go_simp⟩) hHeld ?_
            try simp only [Act.put, List.setIfInBounds_toArray, List.set_cons_zero, List.set_cons_succ]
            refine' wpAnyH_take (i := 3) (oi := _) (v := .bool true) rfl (by kernel_rfl) (by kernel_rfl) (by kernel_rfl) (fun _ _ _ h => h) (Or.inl ⟨by first | (go_simp; done) | rfl, fun X _ => by go_simp⟩) hHeld ?_
            try simp only [Act.put, List.setIfInBounds_toArray, List.set_cons_zero, List.set_cons_succ]
            refine' wpAnyH_take (i := 4) (oi := _) (v := .slice (some ⟨b1, off1, none⟩) N c1) rfl (by kernel_rfl) (by kernel_rfl) (by kernel_rfl) (fun _ _ _ h => h) (Or.inl ⟨by first | (go_simp; done) | rfl, fun X _ => by go_simp⟩) hHeld ?_
            try simp only [Act.put, List.setIfInBounds_toArray, List.set_cons_zero, List.set_cons_succ]
            refine' wpAnyH_take (i := 5) (oi := _) (v := .int .i64 (k : Int)) rfl (by kernel_rfl) (by kernel_rfl) (by kernel_rfl) (fun _ _ _ h => h) (Or.inl ⟨by first | (go_simp; done) | rfl, fun X _ => by go_simp⟩) hHeld ?_
            try simp only [Act.put, List.setIfInBounds_toArray, List.set_cons_zero, List.set_cons_succ]
            refine' wpAnyH_take (i := 6) (oi := _) (v := .pointer (some ⟨b1, off1 + k * 2, none⟩)) rfl (by kernel_rfl) (by kernel_rfl) (by kernel_rfl) (fun _ _ _ h => h) (Or.inl ⟨by first | (go_simp; done) | rfl, fun X _ => by go_simp⟩) hHeld ?_
            try simp only [Act.put, List.setIfInBounds_toArray, List.set_cons_zero, List.set_cons_succ]
            refine' wpAnyH_take (i := 7) (oi := _) (v := .agg #[mv, bv]) rfl (by kernel_rfl) (by kernel_rfl) (by kernel_rfl) (fun _ _ _ h => h) (by refine (yieldsIf_load_mid ?_ 28 (.tmp 46) rfl b1 (off1 + k * 2) ?_ ([mv, bv]) _ (fun X h => h.2) Try.underlying28 rfl (by kernel_rfl)) <;> go_simp) hHeld ?_
            try simp only [Act.put, List.setIfInBounds_toArray, List.set_cons_zero, List.set_cons_succ]
            refine' wpAnyH_take (i := 9) (oi := _) (v := .slice (some ⟨b1, off1, none⟩) N c1) rfl (by kernel_rfl) (by kernel_rfl) (by kernel_rfl) (fun _ _ _ h => h) (Or.inl ⟨by first | (go_simp; done) | rfl, fun X _ => by go_simp⟩) hHeld ?_
            try simp only [Act.put, List.setIfInBounds_toArray, List.set_cons_zero, List.set_cons_succ]
            refine' wpAnyH_take (i := 10) (oi := _) (v := .int .i64 (k : Int)) rfl (by kernel_rfl) (by kernel_rfl) (by kernel_rfl) (fun _ _ _ h => h) (Or.inl ⟨by first | (go_simp; done) | rfl, fun X _ => by go_simp⟩) hHeld ?_
            try simp only [Act.put, List.setIfInBounds_toArray, List.set_cons_zero, List.set_cons_succ]
            refine' wpAnyH_take (i := 11) (oi := _) (v := .pointer (some ⟨b1, off1 + k * 2, none⟩)) rfl (by kernel_rfl) (by kernel_rfl) (by kernel_rfl) (fun _ _ _ h => h) (Or.inl ⟨by first | (go_simp; done) | rfl, fun X _ => by go_simp⟩) hHeld ?_
            try simp only [Act.put, List.setIfInBounds_toArray, List.set_cons_zero, List.set_cons_succ]
            refine' wpAnyH_take (i := 12) (oi := _) (v := .agg #[mv, bv]) rfl (by kernel_rfl) (by kernel_rfl) (by kernel_rfl) (fun _ _ _ h => h) (by refine (yieldsIf_load_mid ?_ 28 (.tmp 51) rfl b1 (off1 + k * 2) ?_ ([mv, bv]) _ (fun X h => h.2) Try.underlying28 rfl (by kernel_rfl)) <;> go_simp) hHeld ?_
            try simp only [Act.put, List.setIfInBounds_toArray, List.set_cons_zero, List.set_cons_succ]
            refine wpAnyH_ready (rs := [8]) (by kernel_rfl) (by simp) ?_
            refine AllReadyH.cons (o := _) rfl (fun K hK => ?_) AllReadyH.nil
            go_simp
            refine (cC.out).mono ?_
            rintro e w5 ⟨u, v, rfl, hlr5, hb5⟩
            obtain ⟨u1, u2, u3, rfl⟩ := Rd.shape hlr5.1
            obtain ⟨v1, v2, v3, rfl⟩ := Rd.shape hlr5.2
            have cS := hide (same13_self _ _ mv bv _ _ w5 hlr5 (hl4.below hb5))
            unfold lineVal at cS
            unfold lineVal
            go_wp2_with fail
            refine hK.out _ _ (⟨Bel.cellOf hb5 hHeld.1, rangeAt_keep hHeld.2 hb5⟩) (fun hHeld => ?_)
            clear hK K
            try simp only [Act.put, List.setIfInBounds_toArray, List.set_cons_zero, List.set_cons_succ]
            refine wpAnyH_ready (rs := [13]) (by kernel_rfl) (by simp) ?_
            refine AllReadyH.cons (o := _) rfl (fun K hK => ?_) AllReadyH.nil
            go_simp
            refine (cS.out).mono ?_
            rintro e w6 ⟨rfl, hb6⟩
            go_wp2_with fail
            refine hK.out _ _ (⟨Bel.cellOf hb6 hHeld.1, rangeAt_keep hHeld.2 hb6⟩) (fun hHeld => ?_)
            clear hK K
            try simp only [Act.put, List.setIfInBounds_toArray, List.set_cons_zero, List.set_cons_succ]
            refine' wpAnyH_take (i := 14) (oi := _) (v := .bool false) rfl (by kernel_rfl) (by kernel_rfl) (by kernel_rfl) (fun _ _ _ h => h) (Or.inl ⟨by first | (go_simp; done) | rfl, fun X _ => by go_simp⟩) hHeld ?_
            try simp only [Act.put, List.setIfInBounds_toArray, List.set_cons_zero, List.set_cons_succ]
            refine' wpAnyH_take (i := 15) (oi := _) (v := .bool false) rfl (by kernel_rfl) (by kernel_rfl) (by kernel_rfl) (fun _ _ _ h => h) (Or.inl ⟨by first | (go_simp; done) | rfl, fun X _ => by go_simp⟩) hHeld ?_
            try simp only [Act.put, List.setIfInBounds_toArray, List.set_cons_zero, List.set_cons_succ]
            refine wpAnyH_done (by kernel_rfl) ?_ _
            go_simp
            have B6 := Bel.to (Bel.to (Bel.to hB3 (Below.drewSelf _)) hb5) hb6
            clear hHeld cS cC hlr5 hl4 hb5 hb6 g2 d1 hB3
            go_wp2
            go_roundg (N - (k + 1))
            case measure => have := hgh.out; have := hlt2.out; omega
            case rel => exact ⟨k + 1, rfl, by have := hlt2.out; omega, by go_num, B6⟩
          · have hkb : (g.kind == 1) = false := by simpa using hk1
            replace hk1 := hide hk1
            go_upto_region 13 with (fail)
            refine wp_region_held_drew (S := fun X => X.cell? ⟨w.heap.size, 1, none⟩ = some (.int .i64 g.kind) ∧ X.rangeAt b1 (off1 + k * 2) [mv, bv]) (by kernel_rfl) (⟨d1, g2⟩) (fun hHeld => ?_)
            refine' wpAnyH_take (i := 0) (oi := _) (v := .pointer (some ⟨w.heap.size, 1, none⟩)) rfl (by kernel_rfl) (by kernel_rfl) (by kernel_rfl) (fun _ _ _ h => h) (Or.inl ⟨by first | (go_simp; done) | rfl, fun X _ => by go_simp⟩) hHeld ?_
            try simp only [Act.put, List.setIfInBounds_toArray, List.set_cons_zero, List.set_cons_succ]
            refine' wpAnyH_take (i := 1) (oi := _) (v := .int .i64 g.kind) rfl (by kernel_rfl) (by kernel_rfl) (by kernel_rfl) (fun _ _ _ h => h) (Or.inl ⟨by first | (go_simp; done) | rfl, fun X hX => by have cX := hX.1; go_simp⟩) hHeld ?_
            try simp only [Act.put, List.setIfInBounds_toArray, List.set_cons_zero, List.set_cons_succ]
            refine' wpAnyH_take (i := 2) (oi := _) (v := .bool false) rfl (by kernel_rfl) (by kernel_rfl) (by kernel_rfl) (fun _ _ _ h => h) (Or.inl ⟨by first | (go_simp; done) | rfl, fun X _ => by go_simp⟩) hHeld ?_
            try simp only [Act.put, List.setIfInBounds_toArray, List.set_cons_zero, List.set_cons_succ]
            refine' wpAnyH_take (i := 3) (oi := _) (v := .bool false) rfl (by kernel_rfl) (by kernel_rfl) (by kernel_rfl) (fun _ _ _ h => h) (Or.inl ⟨by first | (go_simp; done) | rfl, fun X _ => by go_simp⟩) hHeld ?_
            try simp only [Act.put, List.setIfInBounds_toArray, List.set_cons_zero, List.set_cons_succ]
            refine' wpAnyH_take (i := 4) (oi := _) (v := undef) rfl (by kernel_rfl) (by kernel_rfl) (by kernel_rfl) (fun _ _ _ h => h) (Or.inr ⟨by first | (go_simp; done) | rfl, rfl⟩) hHeld ?_
            try simp only [Act.put, List.setIfInBounds_toArray, List.set_cons_zero, List.set_cons_succ]
            refine' wpAnyH_take (i := 5) (oi := _) (v := undef) rfl (by kernel_rfl) (by kernel_rfl) (by kernel_rfl) (fun _ _ _ h => h) (Or.inr ⟨by first | (go_simp; done) | rfl, rfl⟩) hHeld ?_
            try simp only [Act.put, List.setIfInBounds_toArray, List.set_cons_zero, List.set_cons_succ]
            refine' wpAnyH_take (i := 6) (oi := _) (v := undef) rfl (by kernel_rfl) (by kernel_rfl) (by kernel_rfl) (fun _ _ _ h => h) (Or.inr ⟨by first | (go_simp; done) | rfl, rfl⟩) hHeld ?_
            try simp only [Act.put, List.setIfInBounds_toArray, List.set_cons_zero, List.set_cons_succ]
            refine' wpAnyH_take (i := 7) (oi := _) (v := undef) rfl (by kernel_rfl) (by kernel_rfl) (by kernel_rfl) (fun _ _ _ h => h) (Or.inr ⟨by first | (go_simp; done) | rfl, rfl⟩) hHeld ?_
            try simp only [Act.put, List.setIfInBounds_toArray, List.set_cons_zero, List.set_cons_succ]
            refine' wpAnyH_take (i := 8) (oi := _) (v := undef) rfl (by kernel_rfl) (by kernel_rfl) (by kernel_rfl) (fun _ _ _ h => h) (Or.inr ⟨by first | (go_simp; done) | rfl, rfl⟩) hHeld ?_
            try simp only [Act.put, List.setIfInBounds_toArray, List.set_cons_zero, List.set_cons_succ]
            refine' wpAnyH_take (i := 9) (oi := _) (v := undef) rfl (by kernel_rfl) (by kernel_rfl) (by kernel_rfl) (fun _ _ _ h => h) (Or.inr ⟨by first | (go_simp; done) | rfl, rfl⟩) hHeld ?_
            try simp only [Act.put, List.setIfInBounds_toArray, List.set_cons_zero, List.set_cons_succ]
            refine' wpAnyH_take (i := 10) (oi := _) (v := undef) rfl (by kernel_rfl) (by kernel_rfl) (by kernel_rfl) (fun _ _ _ h => h) (Or.inr ⟨by first | (go_simp; done) | rfl, rfl⟩) hHeld ?_
            try simp only [Act.put, List.setIfInBounds_toArray, List.set_cons_zero, List.set_cons_succ]
            refine' wpAnyH_take (i := 11) (oi := _) (v := undef) rfl (by kernel_rfl) (by kernel_rfl) (by kernel_rfl) (fun _ _ _ h => h) (Or.inr ⟨by first | (go_simp; done) | rfl, rfl⟩) hHeld ?_
            try simp only [Act.put, List.setIfInBounds_toArray, List.set_cons_zero, List.set_cons_succ]
            refine' wpAnyH_take (i := 12) (oi := _) (v := undef) rfl (by kernel_rfl) (by kernel_rfl) (by kernel_rfl) (fun _ _ _ h => h) (Or.inr ⟨by first | (go_simp; done) | rfl, rfl⟩) hHeld ?_
            try simp only [Act.put, List.setIfInBounds_toArray, List.set_cons_zero, List.set_cons_succ]
            refine' wpAnyH_take (i := 13) (oi := _) (v := undef) rfl (by kernel_rfl) (by kernel_rfl) (by kernel_rfl) (fun _ _ _ h => h) (Or.inr ⟨by first | (go_simp; done) | rfl, rfl⟩) hHeld ?_
            try simp only [Act.put, List.setIfInBounds_toArray, List.set_cons_zero, List.set_cons_succ]
            refine' wpAnyH_take (i := 14) (oi := _) (v := undef) rfl (by kernel_rfl) (by kernel_rfl) (by kernel_rfl) (fun _ _ _ h => h) (Or.inr ⟨by first | (go_simp; done) | rfl, rfl⟩) hHeld ?_
            try simp only [Act.put, List.setIfInBounds_toArray, List.set_cons_zero, List.set_cons_succ]
            refine' wpAnyH_take (i := 15) (oi := _) (v := .bool false) rfl (by kernel_rfl) (by kernel_rfl) (by kernel_rfl) (fun _ _ _ h => h) (Or.inl ⟨by first | (go_simp; done) | rfl, fun X _ => by go_simp⟩) hHeld ?_
            try simp only [Act.put, List.setIfInBounds_toArray, List.set_cons_zero, List.set_cons_succ]
            refine wpAnyH_done (by kernel_rfl) ?_ _
            go_simp
            have B6 := Bel.to hB3 (Below.drewSelf w3)
            clear hHeld g2 d1 hB3
            go_wp2
            go_roundg (N - (k + 1))
            case measure => have := hgh.out; have := hlt2.out; omega
            case rel => exact ⟨k + 1, rfl, by have := hlt2.out; omega, by go_num, B6⟩
        · have hkn : k = N := by omega
          have BW := Bel.to B2 hB
          clear hB
          go_wp2_with fail
          refine (awake14_any _).mono ?_
          rintro e w7 ⟨rfl, b7⟩
          go_wp2
          go_ret
          exact ⟨rfl, Bel.to BW b7⟩
    · have hcn : (c != 0) = true := by simpa using hc
      replace hc := hide hc
      subst hva
      go_wp2_with fail
      refine (awake14_any _).mono ?_
      rintro e w7 ⟨rfl, b7⟩
      go_wp2
      go_ret
      exact ⟨rfl, Bel.to B2 b7⟩
end Go.Proofs.Ytokhhccokjfgjaa
end

section
/- QuickpickValid: for every input the Go function lotterylaw14.QuickpickValid returns true, and each argument reads afterwards as before. Conditions: none. -/
namespace Go.Proofs.Ytokhhccokjfgjaa.quickpickValid
open Go.ChangeShapes Go.WideShapes Go.ChangeAt Go.RowKit
set_option linter.unusedVariables false

theorem own : ownKnob Try.prog.godebug = none := by kernel_rfl
theorem laidOut : laidOutB Try.prog = true := by kernel_rfl

set_option maxRecDepth 100000 in
theorem lifted (os : Os) (started : os.Started) (H : Type) (enc : TypeId × Value → H) :
    ReturnsInHanded {} Try.checked os 9 .any (Rows.quickpickValidSpec.pre6 enc Try.prog Try.f9 Rows.quickpickValidRow.domain false) (Rows.quickpickValidSpec.post enc Try.prog Try.f9 false true false false) := by
  refine returnsInHanded_of_change (C := Try.checked) own started (by kernel_rfl) Try.func9
    (ChangeSpec.witness6 (enc := enc) (C := Try.checked) false ⟨#[], #[.agg #[.string ⟨#[]⟩, .int .i64 0, .int .i64 0, .int .i64 0, .int .i64 0, .int .i64 0, .int .i64 0, .int .i64 0, .int .i64 0, .int .i64 0, .int .i64 0, .int .i64 0, .int .i64 0, .int .i64 0, .int .i64 0, .int .i64 0, .int .i64 0, .int .i64 0, .int .i64 0, .int .i64 0, .slice none 0 0, .slice none 0 0], .int .u64 0, .int .i64 0], []⟩ 8 (by kernel_rfl) (by kernel_rfl) (by kernel_rfl) (by kernel_rfl)) ?_
  intro W base args ds gs before hval0 hW hcnd _
  have hval : ∀ (j : Nat) t v, Try.f9.params[j]? = some t → args[j]? = some v → Value.okWide Try.prog W .any base t v := hval0
  have hW' := hW
  obtain ⟨p, q, hA0, hV, rfl, hfz, hnd⟩ := hW
  have hA : DataW.TrodAll enc Try.prog W 0 (fun _ => true) true Try.f9.params.toList args.toList ds p := hA0
  rw [Try.params9] at hA hval
  obtain ⟨v0, vs0, d0, ds0, p0, q0, hargs, rfl, rfl, h0, r0⟩ := trodAll_cons hA
  obtain ⟨v1, vs1, d1, ds1, p1, q1, rfl, rfl, rfl, h1, r1⟩ := trodAll_cons r0
  obtain ⟨v2, vs2, d2, ds2, p2, q2, rfl, rfl, rfl, h2, r2⟩ := trodAll_cons r1
  obtain ⟨rfl, rfl, rfl⟩ := trodAll_nil r2
  obtain rfl : args = #[v0, v1, v2] := by cases args; simp_all
  obtain ⟨rfl, rfl⟩ := trodVars_none hV
  obtain ⟨cs0, rfl, hsz0⟩ := okWide_struct Try.underlying25 (hval 0 25 v0 rfl rfl)
  have k0 := h0
  have lt0 : ∀ x ∈ p0, x.block < W.heap.size := by obtain ⟨m, hm⟩ := k0; exact DataW.trod_lt m _ _ _ hm
  obtain ⟨g0, av0, tv0, ms0, eg0, rg0⟩ := game_trod h0
  rw [eg0] at k0 hW' ⊢
  obtain ⟨a1, rfl, rfl, rfl, w1⟩ := open_int Try.underlying36 (hval 1 36 v1 rfl rfl) h1
  have b1 := bounds_u64 w1
  obtain ⟨a2, rfl, rfl, rfl, w2⟩ := open_int Try.underlying3 (hval 2 3 v2 rfl rfl) h2
  have b2 := bounds_i64 w2
  clear hA0 hval0
  refine (valid14_any g0 av0 tv0 ms0 a1 a2 W rg0 (by omega) (by omega)).mono fun e W' ⟨he, bel⟩ => ?_
  subst he
  exact ⟨_, rfl, _, _, _, [], _, [], hW', trodAll_mk1 (shut_bool Try.underlying4 _), (trodAll_cons_mk (Below.trod laidOut (by kernel_rfl) (of_decide_eq_true (by kernel_rfl)) k0 bel lt0) (trodAll_cons_mk (shut_int Try.underlying36 w1) (trodAll_cons_mk (shut_int Try.underlying3 w2) trodAll_mk0))), rfl, bel.frame _, fun h => by cases h⟩

theorem over : Rows.quickpickValidRow.holds Try.pinned (OpenSpec.ofChange Rows.quickpickValidSpec) :=
  OpenClaim.holds_of_wide 9 Try.f9 rfl rfl rfl rfl rfl rfl rfl ⟨rfl, rfl, rfl, rfl, rfl⟩ rfl rfl rfl rfl rfl (by kernel_rfl) Try.func9 (by kernel_rfl)
    (of_decide_eq_true (by kernel_rfl)) (by unfold Func.isWrapper; first | (rw [if_pos (by decide +kernel)]; kernel_rfl) | (rw [if_neg (by decide +kernel)]; exact ⟨rfl, rfl⟩))
    (fun os started H enc _ => lifted os started H enc)

theorem proved : Rows.QuickpickValidSaid := over
#print axioms proved
end Go.Proofs.Ytokhhccokjfgjaa.quickpickValid
end

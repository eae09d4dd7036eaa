/- QuickpickBegins: for every input the Go function lotterylaw14.QuickpickBegins returns true, and each argument reads afterwards as before. Conditions: none. -/
import Derived.Test.YtokhhccokjfgjaaRows
import Derived.WalkKit
import Derived.ProofKit
import Derived.OpenShut
import Derived.ChangeOld
import Derived.Below
import Derived.Test.YtokhhccokjfgjaaGPick
import Derived.Test.YtokhhccokjfgjaaGTrod

section
/- The walk of the statement QuickpickBegins: it returns true, whatever the game, the seed and the number. -/
open Go.RowKit
set_option linter.unusedVariables false
set_option linter.unusedSimpArgs false
namespace Go.Proofs.Ytokhhccokjfgjaa

theorem rangeAt_line {X : World} {b : Nat} {u v : Value} (h : LineAt X b u v) : X.rangeAt b 0 [u, v] := by
  intro j x hx
  rw [Nat.zero_add]
  exact (Row.cell? h j).trans hx
theorem rangeAt_two {X : World} {b o : Nat} {u v : Value} (h1 : X.cell? ⟨b, o, none⟩ = some u) (h2 : X.cell? ⟨b, o + 1, none⟩ = some v) : X.rangeAt b o [u, v] := by
  intro j x hx
  match j, hx with
  | 0, hx => simp at hx; subst hx; exact h1
  | 1, hx => simp at hx; subst hx; exact h2
theorem same13_after {X : World} {m1 b1 m2 b2 : Value} {a b : List Int} (h1 : LineR X m1 b1 a b) (h2 : LineR X m2 b2 a b) (Z : World) (hZ : Below X.heap.size X Z) :
    Calls Try.prog 21 #[lineVal m1 b1, lineVal m2 b2] Z (BoolB true Z) := same13_self m1 b1 m2 b2 a b Z (h1.below hZ) (h2.below hZ)
theorem begins_law {g : GameD} {x m : Nat} (hm : m + 1 ≤ 200) (h : (linesP g x ((m : Int) + 1)).2 = 0) : gameE g = 0 ∧ (linesP g x (m : Int)).2 = 0 ∧ (linesP g x (m : Int)).1.length = m ∧ (lineQ g (x, 0)).1.2 = 0 ∧
    (∃ y, (linesP g x ((m : Int) + 1)).1 = (linesP g x (m : Int)).1 ++ [y]) ∧ ∃ r, (linesP g x ((m : Int) + 1)).1 = (lineQ g (x, 0)).1.1 :: r := by
  by_cases he : gameE g = 0
  · have e1 : linesP g x ((m : Int) + 1) = (linesQ g (m + 1) [] (x, 0)).1 := by
      unfold linesP
      rw [if_neg (by simpa using he), if_neg (by omega), show ((m : Int) + 1).toNat = m + 1 by omega]
    have e2 : linesP g x (m : Int) = (linesQ g m [] (x, 0)).1 := by
      unfold linesP
      rw [if_neg (by simpa using he), if_neg (by omega), Int.toNat_natCast]
    rw [e1] at h ⊢
    rw [e2]
    obtain ⟨l1, l2⟩ := linesQ_less h
    obtain ⟨f1, f2⟩ := linesQ_first h
    have hv := linesQ_valid (g := g) (k := m) (acc := []) (s := (x, 0)) (P := fun _ => True) (fun s hs => trivial) (by simp) l1
    refine ⟨he, l1, ?_, f1, l2, f2⟩
    have := hv.1
    rw [List.length_nil, Nat.zero_add] at this
    exact this
  · unfold linesP at h
    rw [if_pos he] at h
    exact absurd h he

set_option maxHeartbeats 4000000 in
set_option maxRecDepth 100000 in
theorem begins14_out (g : GameD) (av tv : Value) (ms : List AddonM) (x : Nat) (n : Int) (w : World) (h : GameR w av tv ms g) (hn : n < 1 ∨ 200 < n) : Calls Try.prog 4 #[gameVal g av tv, .int .u64 (x : Int), .int .i64 n] w (BoolB true w) := by
  have cF := hide (fun X (hX : GameR X av tv ms g) => few14_any g av tv ms X hX)
  have hh := hide h
  obtain ⟨aa, ac, rfl, hal, ham⟩ := h.1.1.shape
  obtain ⟨ta, tc, rfl, htl, htm⟩ := h.2.2.shape
  clear h
  rcases hn with hn | hn
  all_goals
    unfold gameVal
    go_enter Try.func4, Try.ntmps4
    go_upto_region 1 with (fail)
    obtain ⟨W, hW⟩ : ∃ W, W = (w.alloc (Obj.cells #[.string g.name, .int .i64 g.kind, .int .i64 g.price, .int .i64 g.main, .int .i64 g.of, .int .i64 g.bonus, .int .i64 g.bonusOf, .int .i64 g.extra, .int .i64 g.draws, .int .i64 g.system, .int .i64 g.days, .int .i64 g.at_, .int .i64 g.close, .int .i64 g.cancel, .int .i64 g.expiry, .int .i64 g.pool, .int .i64 g.reserve, .int .i64 g.round, .int .i64 g.cap, .int .i64 g.rolls, (.slice aa ms.length ac), (.slice ta g.tiers.length tc)] 25)) := ⟨_, rfl⟩
    have bW : Below w.heap.size w W := by rw [hW]; exact Bel.al (Below.refl _ _) _
    have r0 : GameAt W (w.heap.size) g ((.slice aa ms.length ac)) ((.slice ta g.tiers.length tc)) := by rw [hW]; exact Row.new _ _ _
    have sW : w.heap.size < W.heap.size := by rw [hW]; simp
    rw [← hW]
    clear hW
    go_wp2_with (first | (refine wpList_load_row rfl 25 _ rfl _ rfl _ _ _ _ r0 Try.underlying25 rfl (by kernel_rfl) ?_) | fail)
    refine (cF.out _ (hh.out.below bW)).mono ?_
    rintro e w1 ⟨q, rfl, b1⟩
    have B1 := Bel.to bW b1
    replace r0 := r0.keep b1
    clear bW b1 cF sW
    cases q
    all_goals
      go_wp2_with fail
      refine (awake14_any _).mono ?_
      rintro e w7 ⟨rfl, b7⟩
      go_wp2
      go_ret
      exact ⟨rfl, Bel.to B1 b7⟩

set_option maxHeartbeats 8000000 in
set_option maxRecDepth 100000 in
theorem begins14_in (g : GameD) (av tv : Value) (ms : List AddonM) (x m : Nat) (w : World) (h : GameR w av tv ms g) (hm : m + 1 ≤ 200) : Calls Try.prog 4 #[gameVal g av tv, .int .u64 (x : Int), .int .i64 ((m : Int) + 1)] w (BoolB true w) := by
  have cF := hide (fun X (hX : GameR X av tv ms g) => few14_any g av tv ms X hX)
  have cL := hide (fun X (hX : GameR X av tv ms g) => qlines_any g av tv ms x ((m : Int) + 1) X hX)
  have cM := hide (fun X (hX : GameR X av tv ms g) => qlines_any g av tv ms x (m : Int) X hX)
  have cQ := hide (fun b X (hX : GameR X av tv ms g) (hs : StA 77 X b (x, 0)) (he : gameE g = 0) => qline_ok g av tv ms b (x, 0) X hX hs he)
  have cN := hide (fun X => snew_any x X)
  have hv := begins_law (g := g) hm (x := x)
  obtain ⟨R, hR⟩ : ∃ R, R = linesP g x ((m : Int) + 1) := ⟨_, rfl⟩
  obtain ⟨U, hU⟩ : ∃ U, U = linesP g x (m : Int) := ⟨_, rfl⟩
  obtain ⟨V, hV⟩ : ∃ V, V = lineQ g (x, 0) := ⟨_, rfl⟩
  rw [← hR] at cL hv
  rw [← hU] at cM hv
  rw [← hV] at cQ hv
  clear hR hU hV
  obtain ⟨L, c⟩ := R
  obtain ⟨L', c'⟩ := U
  obtain ⟨⟨⟨a, b⟩, cq⟩, st'⟩ := V
  simp only [] at cL cM hv cQ
  have a1 : (0 : Int) ≤ (m : Int) := by omega
  have a2 : (m : Int) ≤ 199 := by omega
  have hh := hide h
  obtain ⟨aa, ac, rfl, hal, ham⟩ := h.1.1.shape
  obtain ⟨ta, tc, rfl, htl, htm⟩ := h.2.2.shape
  clear h
  unfold gameVal at cF cL cM cQ
  by_cases hc : c = 0
  · subst hc
    obtain ⟨he, hc', hlen', hcq, ⟨y, hy⟩, ⟨r, hr⟩⟩ := hv rfl
    subst hc' hcq
    have cQ2 := hide (fun b X hX hs => cQ.out b X hX hs he)
    have hlen : L.length = m + 1 := by rw [hy, List.length_append, hlen']; rfl
    have htake : L.take m = L' := by rw [hy, ← hlen', List.take_left]
    have hfirst : L[0]? = some (a, b) := by rw [hr]; rfl
    replace hlen := hide hlen
    replace hlen' := hide hlen'
    replace htake := hide htake
    replace hfirst := hide hfirst
    clear hv hy hr he cQ
    have cQ := cQ2
    clear cQ2
    unfold gameVal
    go_enter Try.func4, Try.ntmps4
    go_upto_region 1 with (fail)
    obtain ⟨W, hW⟩ : ∃ W, W = (w.alloc (Obj.cells #[.string g.name, .int .i64 g.kind, .int .i64 g.price, .int .i64 g.main, .int .i64 g.of, .int .i64 g.bonus, .int .i64 g.bonusOf, .int .i64 g.extra, .int .i64 g.draws, .int .i64 g.system, .int .i64 g.days, .int .i64 g.at_, .int .i64 g.close, .int .i64 g.cancel, .int .i64 g.expiry, .int .i64 g.pool, .int .i64 g.reserve, .int .i64 g.round, .int .i64 g.cap, .int .i64 g.rolls, (.slice aa ms.length ac), (.slice ta g.tiers.length tc)] 25)) := ⟨_, rfl⟩
    have bW : Below w.heap.size w W := by rw [hW]; exact Bel.al (Below.refl _ _) _
    have r0 : GameAt W (w.heap.size) g ((.slice aa ms.length ac)) ((.slice ta g.tiers.length tc)) := by rw [hW]; exact Row.new _ _ _
    have sW : w.heap.size < W.heap.size := by rw [hW]; simp
    rw [← hW]
    clear hW
    go_wp2_with (first | (refine wpList_load_row rfl 25 _ rfl _ rfl _ _ _ _ r0 Try.underlying25 rfl (by kernel_rfl) ?_) | fail)
    refine (cF.out _ (hh.out.below bW)).mono ?_
    rintro e w1 ⟨q, rfl, b1⟩
    have B1 := Bel.to bW b1
    replace r0 := r0.keep b1
    clear bW b1 cF sW
    cases q with
    | false =>
      go_wp2_with fail
      refine (awake14_any _).mono ?_
      rintro e w7 ⟨rfl, b7⟩
      go_wp2
      go_ret
      exact ⟨rfl, Bel.to B1 b7⟩
    | true =>
      go_wp2_with (first | (refine wpList_load_row rfl 25 _ rfl _ rfl _ _ _ _ r0 Try.underlying25 rfl (by kernel_rfl) ?_) | fail)
      refine (cL.out _ (hh.out.below B1)).mono ?_
      rintro e wA ⟨va, rfl, hlA, bA⟩
      have BA := Bel.to B1 bA
      replace r0 := r0.keep bA
      obtain ⟨a1', c1, hva, hc1, hm1⟩ := hlA.shape
      rw [hlen.out] at hva hc1
      unfold maxLen at hm1
      subst hva
      clear B1 bA cL
      go_wp2_with (first | (refine wpList_load_row rfl 25 _ rfl _ rfl _ _ _ _ r0 Try.underlying25 rfl (by kernel_rfl) ?_) | fail)
      refine (cM.out _ (hh.out.below BA)).mono ?_
      rintro e w2 ⟨vb, rfl, hlB, b2⟩
      have B2 := Bel.to BA b2
      replace r0 := r0.keep b2
      replace hlA := hlA.below b2
      obtain ⟨a2, c2, hvb, hc2, hm2⟩ := hlB.shape
      rw [hlen'.out] at hvb hc2
      unfold maxLen at hm2
      subst hvb
      clear BA b2 cM
      have g1 : w2.rangeAt w.heap.size 0 (gameCells g (.slice aa ms.length ac) (.slice ta g.tiers.length tc)) := by
        intro j v hv
        rw [Nat.zero_add]
        exact (Row.cell? r0 j).trans hv
      clear r0
      go_upto_region 7 with (fail)
      go_cut [11, 12] (fun p c X => ∃ (pb : Nat) (u v : Value), p = .pointer (some ⟨pb, 0, none⟩) ∧ c = .int .i64 0 ∧ Below w2.heap.size w2 X ∧ LineAt X pb u v ∧ LineR X u v a b)
      case first =>
        refine wp_region_held_drew (S := fun X => X.rangeAt w.heap.size 0 (gameCells g (.slice aa ms.length ac) (.slice ta g.tiers.length tc))) (by kernel_rfl) (g1) (fun hHeld => ?_)
        refine' wpAnyH_take (i := 0) (oi := _) (v := _) rfl (by kernel_rfl) (by kernel_rfl) (by kernel_rfl) (fun _ _ _ h => h) (yieldsIf_load_mid (by first | (go_simp; done) | rfl) 25 _ rfl _ _ rfl (gameCells g (.slice aa ms.length ac) (.slice ta g.tiers.length tc)) _ (fun X h => h) Try.underlying25 rfl (by kernel_rfl)) hHeld ?_
        try simp only [Act.put, List.setIfInBounds_toArray, List.set_cons_zero, List.set_cons_succ]
        refine' wpAnyH_take (i := 1) (oi := _) (v := .int .u64 (x : Int)) rfl (by kernel_rfl) (by kernel_rfl) (by kernel_rfl) (fun _ _ _ h => h) (Or.inl ⟨by first | (go_simp; done) | rfl, fun X _ => by go_simp⟩) hHeld ?_
        try simp only [Act.put, List.setIfInBounds_toArray, List.set_cons_zero, List.set_cons_succ]
        refine wpAnyH_ready (rs := [2, 7]) (by kernel_rfl) (by simp) ?_
        refine AllReadyH.cons (o := _) rfl (fun K hK => ?_) (AllReadyH.cons (o := _) rfl (fun K hK => ?_) AllReadyH.nil)
        · skip
          have BX : Below w2.heap.size w2 w2.drew := Below.drewSelf _
          go_simp
          refine (cN.out _).mono ?_
          rintro e w3 ⟨rfl, hS, hb3, hz3⟩
          obtain ⟨sb, hsb⟩ : ∃ p, p = w2.drew.heap.size := ⟨_, rfl⟩
          try rw [show w2.drew.heap.size = w2.heap.size from rfl] at hsb
          try rw [show w2.drew.heap.size = w2.heap.size from rfl] at hS ⊢
          rw [← hsb] at hS ⊢
          (try rw [← hsb] at hpb2)
          have hsb1 : w2.heap.size ≤ sb := by rw [hsb]; exact BX.size
          have BX := Bel.to BX hb3
          (try have rY := Row.keep rY hb3)
          clear hsb hz3
          go_wp2_with fail
          refine hK.out _ _ (rangeAt_keep hHeld hb3) (fun hHeld => ?_)
          clear hK K
          try simp only [Act.put, List.setIfInBounds_toArray, List.set_cons_zero, List.set_cons_succ]
          refine wpAnyH_ready (rs := [3, 7]) (by kernel_rfl) (by simp) ?_
          refine AllReadyH.cons (o := _) rfl (fun K hK => ?_) (AllReadyH.cons (o := _) rfl (fun K hK => ?_) AllReadyH.nil)
          · skip
            go_simp
            refine (cQ.out sb _ (hh.out.below (Bel.to B2 BX)) hS).mono ?_
            rintro e w4 ⟨u, v, rfl, hlr, fu, fv, hS4, hG4⟩
            have hH4 := rangeAt_keep g1 (Gb.bel BX hG4 hsb1)
            simp only [] at hlr
            obtain ⟨u1, u2, u3, rfl⟩ := Rd.shape hlr.1
            obtain ⟨v1, v2, v3, rfl⟩ := Rd.shape hlr.2
            have BX := Gb.bel BX hG4 hsb1
            (try have rY := Row.grown rY hG4 (by intro e; injection e with e; omega))
            clear fu fv hS4 hG4
            unfold lineVal
            go_wp2_with fail
            refine hK.out _ _ (hH4) (fun hHeld => ?_)
            clear hK K
            try simp only [Act.put, List.setIfInBounds_toArray, List.set_cons_zero, List.set_cons_succ]
            refine' wpAnyH_take (i := 4) (oi := _) (v := .tuple #[.agg #[.slice u1 u2 u3, .slice v1 v2 v3], .int .i64 0]) rfl (by kernel_rfl) (by kernel_rfl) (by kernel_rfl) (fun _ _ _ h => h) (Or.inl ⟨by first | (go_simp; done) | rfl, fun X _ => by go_simp⟩) hHeld ?_
            try simp only [Act.put, List.setIfInBounds_toArray, List.set_cons_zero, List.set_cons_succ]
            refine' wpAnyH_take (i := 5) (oi := _) (v := .agg #[.slice u1 u2 u3, .slice v1 v2 v3]) rfl (by kernel_rfl) (by kernel_rfl) (by kernel_rfl) (fun _ _ _ h => h) (Or.inl ⟨by first | (go_simp; done) | rfl, fun X _ => by go_simp⟩) hHeld ?_
            try simp only [Act.put, List.setIfInBounds_toArray, List.set_cons_zero, List.set_cons_succ]
            refine' wpAnyH_take (i := 6) (oi := _) (v := .int .i64 0) rfl (by kernel_rfl) (by kernel_rfl) (by kernel_rfl) (fun _ _ _ h => h) (Or.inl ⟨by first | (go_simp; done) | rfl, fun X _ => by go_simp⟩) hHeld ?_
            try simp only [Act.put, List.setIfInBounds_toArray, List.set_cons_zero, List.set_cons_succ]
            refine wpAnyH_ready (rs := [7]) (by kernel_rfl) (by simp) ?_
            refine AllReadyH.cons (o := _) rfl (fun K hK => ?_) AllReadyH.nil
            go_simp
            obtain ⟨Y, hY⟩ : ∃ Y, Y = w4.alloc (.cells #[.slice none 0 0, .slice none 0 0] 28) := ⟨_, rfl⟩
            have rY : Row Y w4.heap.size 28 [.slice none 0 0, .slice none 0 0] := by rw [hY]; exact Row.new _ _ _
            have bY : Below w4.heap.size w4 Y := by rw [hY]; exact Bel.al (Below.refl _ _) _
            rw [← hY]
            clear hY
            have zX := BX.size
            have BX := Bel.to BX bY
            have hlr := hlr.below bY
            have hH2 := rangeAt_keep hHeld bY
            obtain ⟨pb, hpb⟩ : ∃ p, p = w4.heap.size := ⟨_, rfl⟩
            rw [← hpb] at rY ⊢
            have hpb1 : w2.heap.size ≤ pb := by rw [hpb]; exact zX
            clear hpb zX bY
            refine hK.out _ _ hH2 (fun hHeld => ?_)
            clear hK K hH2
            try simp only [Act.put, List.setIfInBounds_toArray, List.set_cons_zero, List.set_cons_succ]
            have x0 := LineAt.main rY
            have x1 := LineAt.bonus rY
            have x2 := Row.frozen rY 0
            have x3 := Row.frozen rY 1
            obtain ⟨hat, hlr9, hlg⟩ := line_stored rY hlr.1 hlr.2
            have hH9 := rangeAt_keep g1 (Gb.bel BX hlg hpb1)
            replace hat := hide hat
            replace hlr9 := hide hlr9
            have B9 := hide (Gb.bel BX hlg hpb1)
            replace hH9 := hide hH9
            clear hlg
            refine wpAnyH_ready (rs := [8]) (by kernel_rfl) (by simp) ?_
            refine AllReadyH.cons (o := _) rfl (fun K hK => ?_) AllReadyH.nil
            go_simp
            refine hK.out _ _ (hH9.out) (fun hHeld => ?_)
            clear hK K
            try simp only [Act.put, List.setIfInBounds_toArray, List.set_cons_zero, List.set_cons_succ]
            refine' wpAnyH_take (i := 9) (oi := _) (v := .int .i64 0) rfl (by kernel_rfl) (by kernel_rfl) (by kernel_rfl) (fun _ _ _ h => h) (Or.inl ⟨by first | (go_simp; done) | rfl, fun X _ => by go_simp⟩) hHeld ?_
            try simp only [Act.put, List.setIfInBounds_toArray, List.set_cons_zero, List.set_cons_succ]
            refine wpAnyH_done (by kernel_rfl) ?_ _
            go_simp
            go_wp2_with fail
            go_meet
            exact ⟨pb, _, _, rfl, rfl, B9.out, hat.out, hlr9.out⟩
          · skip
            have hSlt := hS.lt
            go_simp
            obtain ⟨Y, hY⟩ : ∃ Y, Y = w3.alloc (.cells #[.slice none 0 0, .slice none 0 0] 28) := ⟨_, rfl⟩
            have rY : Row Y w3.heap.size 28 [.slice none 0 0, .slice none 0 0] := by rw [hY]; exact Row.new _ _ _
            have bY : Below w3.heap.size w3 Y := by rw [hY]; exact Bel.al (Below.refl _ _) _
            rw [← hY]
            clear hY
            have zX := BX.size
            have BX := Bel.to BX bY
            have hS := hS.keep bY
            have hH2 := rangeAt_keep hHeld bY
            obtain ⟨pb, hpb⟩ : ∃ p, p = w3.heap.size := ⟨_, rfl⟩
            rw [← hpb] at rY ⊢
            have hpb1 : w2.heap.size ≤ pb := by rw [hpb]; exact zX
            have hne : sb < pb := by rw [hpb]; exact hSlt
            clear hpb zX bY
            refine hK.out _ _ hH2 (fun hHeld => ?_)
            clear hK K hH2
            try simp only [Act.put, List.setIfInBounds_toArray, List.set_cons_zero, List.set_cons_succ]
            refine wpAnyH_ready (rs := [3]) (by kernel_rfl) (by simp) ?_
            refine AllReadyH.cons (o := _) rfl (fun K hK => ?_) AllReadyH.nil
            go_simp
            refine (cQ.out sb _ (hh.out.below (Bel.to B2 BX)) hS).mono ?_
            rintro e w4 ⟨u, v, rfl, hlr, fu, fv, hS4, hG4⟩
            have hH4 := rangeAt_keep g1 (Gb.bel BX hG4 hsb1)
            simp only [] at hlr
            obtain ⟨u1, u2, u3, rfl⟩ := Rd.shape hlr.1
            obtain ⟨v1, v2, v3, rfl⟩ := Rd.shape hlr.2
            have BX := Gb.bel BX hG4 hsb1
            (try have rY := Row.grown rY hG4 (by intro e; injection e with e; omega))
            clear fu fv hS4 hG4
            unfold lineVal
            go_wp2_with fail
            refine hK.out _ _ (hH4) (fun hHeld => ?_)
            clear hK K
            try simp only [Act.put, List.setIfInBounds_toArray, List.set_cons_zero, List.set_cons_succ]
            refine' wpAnyH_take (i := 4) (oi := _) (v := .tuple #[.agg #[.slice u1 u2 u3, .slice v1 v2 v3], .int .i64 0]) rfl (by kernel_rfl) (by kernel_rfl) (by kernel_rfl) (fun _ _ _ h => h) (Or.inl ⟨by first | (go_simp; done) | rfl, fun X _ => by go_simp⟩) hHeld ?_
            try simp only [Act.put, List.setIfInBounds_toArray, List.set_cons_zero, List.set_cons_succ]
            refine' wpAnyH_take (i := 5) (oi := _) (v := .agg #[.slice u1 u2 u3, .slice v1 v2 v3]) rfl (by kernel_rfl) (by kernel_rfl) (by kernel_rfl) (fun _ _ _ h => h) (Or.inl ⟨by first | (go_simp; done) | rfl, fun X _ => by go_simp⟩) hHeld ?_
            try simp only [Act.put, List.setIfInBounds_toArray, List.set_cons_zero, List.set_cons_succ]
            refine' wpAnyH_take (i := 6) (oi := _) (v := .int .i64 0) rfl (by kernel_rfl) (by kernel_rfl) (by kernel_rfl) (fun _ _ _ h => h) (Or.inl ⟨by first | (go_simp; done) | rfl, fun X _ => by go_simp⟩) hHeld ?_
            try simp only [Act.put, List.setIfInBounds_toArray, List.set_cons_zero, List.set_cons_succ]
            have x0 := LineAt.main rY
            have x1 := LineAt.bonus rY
            have x2 := Row.frozen rY 0
            have x3 := Row.frozen rY 1
            obtain ⟨hat, hlr9, hlg⟩ := line_stored rY hlr.1 hlr.2
            have hH9 := rangeAt_keep g1 (Gb.bel BX hlg hpb1)
            replace hat := hide hat
            replace hlr9 := hide hlr9
            have B9 := hide (Gb.bel BX hlg hpb1)
            replace hH9 := hide hH9
            clear hlg
            refine wpAnyH_ready (rs := [8]) (by kernel_rfl) (by simp) ?_
            refine AllReadyH.cons (o := _) rfl (fun K hK => ?_) AllReadyH.nil
            go_simp
            refine hK.out _ _ (hH9.out) (fun hHeld => ?_)
            clear hK K
            try simp only [Act.put, List.setIfInBounds_toArray, List.set_cons_zero, List.set_cons_succ]
            refine' wpAnyH_take (i := 9) (oi := _) (v := .int .i64 0) rfl (by kernel_rfl) (by kernel_rfl) (by kernel_rfl) (fun _ _ _ h => h) (Or.inl ⟨by first | (go_simp; done) | rfl, fun X _ => by go_simp⟩) hHeld ?_
            try simp only [Act.put, List.setIfInBounds_toArray, List.set_cons_zero, List.set_cons_succ]
            refine wpAnyH_done (by kernel_rfl) ?_ _
            go_simp
            go_wp2_with fail
            go_meet
            exact ⟨pb, _, _, rfl, rfl, B9.out, hat.out, hlr9.out⟩
        · skip
          go_simp
          obtain ⟨Y, hY⟩ : ∃ Y, Y = (w2.alloc (.cells #[.slice none 0 0, .slice none 0 0] 28)).drew := ⟨_, rfl⟩
          have rY : Row Y w2.heap.size 28 [.slice none 0 0, .slice none 0 0] := by rw [hY]; exact Row.drew (Row.new _ _ _)
          have BX : Below w2.heap.size w2 Y := by rw [hY]; exact Bel.to (Bel.al (Below.refl _ _) _) (Below.drewSelf _)
          rw [← hY]
          clear hY
          have hH2 := rangeAt_keep g1 BX
          obtain ⟨pb, hpb⟩ : ∃ p, p = w2.heap.size := ⟨_, rfl⟩
          have hpb1 : w2.heap.size ≤ pb := by omega
          have hpb2 : pb < Y.heap.size := by rw [hpb]; exact rY.lt
          rw [← hpb] at rY
          try rw [← hpb]
          clear hpb
          refine hK.out _ _ hH2 (fun hHeld => ?_)
          clear hK K
          try simp only [Act.put, List.setIfInBounds_toArray, List.set_cons_zero, List.set_cons_succ]
          refine wpAnyH_ready (rs := [2]) (by kernel_rfl) (by simp) ?_
          refine AllReadyH.cons (o := _) rfl (fun K hK => ?_) AllReadyH.nil
          go_simp
          refine (cN.out _).mono ?_
          rintro e w3 ⟨rfl, hS, hb3, hz3⟩
          obtain ⟨sb, hsb⟩ : ∃ p, p = Y.heap.size := ⟨_, rfl⟩
          try rw [show w2.drew.heap.size = w2.heap.size from rfl] at hsb
          try rw [show w2.drew.heap.size = w2.heap.size from rfl] at hS ⊢
          rw [← hsb] at hS ⊢
          (try rw [← hsb] at hpb2)
          have hsb1 : w2.heap.size ≤ sb := by rw [hsb]; exact BX.size
          have BX := Bel.to BX hb3
          (try have rY := Row.keep rY hb3)
          clear hsb hz3
          go_wp2_with fail
          refine hK.out _ _ (rangeAt_keep hHeld hb3) (fun hHeld => ?_)
          clear hK K
          try simp only [Act.put, List.setIfInBounds_toArray, List.set_cons_zero, List.set_cons_succ]
          refine wpAnyH_ready (rs := [3]) (by kernel_rfl) (by simp) ?_
          refine AllReadyH.cons (o := _) rfl (fun K hK => ?_) AllReadyH.nil
          go_simp
          refine (cQ.out sb _ (hh.out.below (Bel.to B2 BX)) hS).mono ?_
          rintro e w4 ⟨u, v, rfl, hlr, fu, fv, hS4, hG4⟩
          have hH4 := rangeAt_keep g1 (Gb.bel BX hG4 hsb1)
          simp only [] at hlr
          obtain ⟨u1, u2, u3, rfl⟩ := Rd.shape hlr.1
          obtain ⟨v1, v2, v3, rfl⟩ := Rd.shape hlr.2
          have BX := Gb.bel BX hG4 hsb1
          (try have rY := Row.grown rY hG4 (by intro e; injection e with e; omega))
          clear fu fv hS4 hG4
          unfold lineVal
          go_wp2_with fail
          refine hK.out _ _ (hH4) (fun hHeld => ?_)
          clear hK K
          try simp only [Act.put, List.setIfInBounds_toArray, List.set_cons_zero, List.set_cons_succ]
          refine' wpAnyH_take (i := 4) (oi := _) (v := .tuple #[.agg #[.slice u1 u2 u3, .slice v1 v2 v3], .int .i64 0]) rfl (by kernel_rfl) (by kernel_rfl) (by kernel_rfl) (fun _ _ _ h => h) (Or.inl ⟨by first | (go_simp; done) | rfl, fun X _ => by go_simp⟩) hHeld ?_
          try simp only [Act.put, List.setIfInBounds_toArray, List.set_cons_zero, List.set_cons_succ]
          refine' wpAnyH_take (i := 5) (oi := _) (v := .agg #[.slice u1 u2 u3, .slice v1 v2 v3]) rfl (by kernel_rfl) (by kernel_rfl) (by kernel_rfl) (fun _ _ _ h => h) (Or.inl ⟨by first | (go_simp; done) | rfl, fun X _ => by go_simp⟩) hHeld ?_
          try simp only [Act.put, List.setIfInBounds_toArray, List.set_cons_zero, List.set_cons_succ]
          refine' wpAnyH_take (i := 6) (oi := _) (v := .int .i64 0) rfl (by kernel_rfl) (by kernel_rfl) (by kernel_rfl) (fun _ _ _ h => h) (Or.inl ⟨by first | (go_simp; done) | rfl, fun X _ => by go_simp⟩) hHeld ?_
          try simp only [Act.put, List.setIfInBounds_toArray, List.set_cons_zero, List.set_cons_succ]
          have x0 := LineAt.main rY
          have x1 := LineAt.bonus rY
          have x2 := Row.frozen rY 0
          have x3 := Row.frozen rY 1
          obtain ⟨hat, hlr9, hlg⟩ := line_stored rY hlr.1 hlr.2
          have hH9 := rangeAt_keep g1 (Gb.bel BX hlg hpb1)
          replace hat := hide hat
          replace hlr9 := hide hlr9
          have B9 := hide (Gb.bel BX hlg hpb1)
          replace hH9 := hide hH9
          clear hlg
          refine wpAnyH_ready (rs := [8]) (by kernel_rfl) (by simp) ?_
          refine AllReadyH.cons (o := _) rfl (fun K hK => ?_) AllReadyH.nil
          go_simp
          refine hK.out _ _ (hH9.out) (fun hHeld => ?_)
          clear hK K
          try simp only [Act.put, List.setIfInBounds_toArray, List.set_cons_zero, List.set_cons_succ]
          refine' wpAnyH_take (i := 9) (oi := _) (v := .int .i64 0) rfl (by kernel_rfl) (by kernel_rfl) (by kernel_rfl) (fun _ _ _ h => h) (Or.inl ⟨by first | (go_simp; done) | rfl, fun X _ => by go_simp⟩) hHeld ?_
          try simp only [Act.put, List.setIfInBounds_toArray, List.set_cons_zero, List.set_cons_succ]
          refine wpAnyH_done (by kernel_rfl) ?_ _
          go_simp
          go_wp2_with fail
          go_meet
          exact ⟨pb, _, _, rfl, rfl, B9.out, hat.out, hlr9.out⟩
      case rest =>
        obtain ⟨pb, u, v, rfl, rfl, BX, rY, hlr⟩ := hcut
        obtain ⟨u1, u2, u3, rfl⟩ := Rd.shape hlr.1
        obtain ⟨v1, v2, v3, rfl⟩ := Rd.shape hlr.2
        have B3 := Bel.to B2 BX
        replace hlA := hlA.below BX
        replace hlB := hlB.below BX
        obtain ⟨b1, off1, mv, bv, rfl, hbb, x1, y1, hl⟩ := hlA.at_ (i := 0) (by rw [hlen.out]; omega)
        have hab : L[0]'(by rw [hlen.out]; omega) = (a, b) := by
          have := hfirst.out
          rw [List.getElem?_eq_getElem (by rw [hlen.out]; omega)] at this
          injection this
        rw [hab] at hl
        simp only [] at hl
        have g3 := rangeAt_line rY
        have g4 := rangeAt_two x1 y1
        have hl2 := hide hlB
        have hlt := hlA.take (n := m) (c := c1) (by rw [hlen.out]) (by rw [hlen.out]; omega) (by omega) (by unfold maxLen; omega)
        rw [htake.out] at hlt
        replace hlt := hide hlt
        have cS := hide (same13_after hlr hl)
        unfold lineVal at cS
        clear hlA hlB x1 y1 hl hlr rY BX B2
        have kw : IntKind.i64.wrap (m : Int) = (m : Int) := IntWalk.i64_in _ (by omega)
        have hcm : ¬ c1 < m := by omega
        go_upto_region 8 with (fail)
        refine wp_region_held_drew (S := fun X => X.rangeAt pb 0 [.slice u1 u2 u3, .slice v1 v2 v3] ∧ X.rangeAt b1 (off1 + 0 * 2) [mv, bv]) (by kernel_rfl) (⟨g3, g4⟩) (fun hHeld => ?_)
        refine' wpAnyH_take (i := 0) (oi := _) (v := .int .i64 0) rfl (by kernel_rfl) (by kernel_rfl) (by kernel_rfl) (fun _ _ _ h => h) (Or.inl ⟨by first | (go_simp; done) | rfl, fun X _ => by go_simp⟩) hHeld ?_
        try simp only [Act.put, List.setIfInBounds_toArray, List.set_cons_zero, List.set_cons_succ]
        refine' wpAnyH_take (i := 1) (oi := _) (v := .bool true) rfl (by kernel_rfl) (by kernel_rfl) (by kernel_rfl) (fun _ _ _ h => h) (Or.inl ⟨by first | (go_simp; done) | rfl, fun X _ => by go_simp⟩) hHeld ?_
        try simp only [Act.put, List.setIfInBounds_toArray, List.set_cons_zero, List.set_cons_succ]
        refine' wpAnyH_take (i := 2) (oi := _) (v := .bool true) rfl (by kernel_rfl) (by kernel_rfl) (by kernel_rfl) (fun _ _ _ h => h) (Or.inl ⟨by first | (go_simp; done) | rfl, fun X _ => by go_simp⟩) hHeld ?_
        try simp only [Act.put, List.setIfInBounds_toArray, List.set_cons_zero, List.set_cons_succ]
        refine' wpAnyH_take (i := 3) (oi := _) (v := .slice (some ⟨b1, off1, none⟩) (m + 1) c1) rfl (by kernel_rfl) (by kernel_rfl) (by kernel_rfl) (fun _ _ _ h => h) (Or.inl ⟨by first | (go_simp; done) | rfl, fun X _ => by go_simp⟩) hHeld ?_
        try simp only [Act.put, List.setIfInBounds_toArray, List.set_cons_zero, List.set_cons_succ]
        refine' wpAnyH_take (i := 4) (oi := _) (v := .int .i64 ((m : Int) + 1)) rfl (by kernel_rfl) (by kernel_rfl) (by kernel_rfl) (fun _ _ _ h => h) (Or.inl ⟨by first | (go_simp; done) | rfl, fun X _ => by go_simp⟩) hHeld ?_
        try simp only [Act.put, List.setIfInBounds_toArray, List.set_cons_zero, List.set_cons_succ]
        refine' wpAnyH_take (i := 5) (oi := _) (v := .int .i64 ((m : Int) + 1)) rfl (by kernel_rfl) (by kernel_rfl) (by kernel_rfl) (fun _ _ _ h => h) (Or.inl ⟨by first | (go_simp; done) | rfl, fun X _ => by go_simp⟩) hHeld ?_
        try simp only [Act.put, List.setIfInBounds_toArray, List.set_cons_zero, List.set_cons_succ]
        refine' wpAnyH_take (i := 6) (oi := _) (v := .bool true) rfl (by kernel_rfl) (by kernel_rfl) (by kernel_rfl) (fun _ _ _ h => h) (Or.inl ⟨by first | (go_simp; done) | rfl, fun X _ => by go_simp⟩) hHeld ?_
        try simp only [Act.put, List.setIfInBounds_toArray, List.set_cons_zero, List.set_cons_succ]
        refine' wpAnyH_take (i := 7) (oi := _) (v := .bool true) rfl (by kernel_rfl) (by kernel_rfl) (by kernel_rfl) (fun _ _ _ h => h) (Or.inl ⟨by first | (go_simp; done) | rfl, fun X _ => by go_simp⟩) hHeld ?_
        try simp only [Act.put, List.setIfInBounds_toArray, List.set_cons_zero, List.set_cons_succ]
        refine' wpAnyH_take (i := 8) (oi := _) (v := .bool true) rfl (by kernel_rfl) (by kernel_rfl) (by kernel_rfl) (fun _ _ _ h => h) (Or.inl ⟨by first | (go_simp; done) | rfl, fun X _ => by go_simp⟩) hHeld ?_
        try simp only [Act.put, List.setIfInBounds_toArray, List.set_cons_zero, List.set_cons_succ]
        refine' wpAnyH_take (i := 9) (oi := _) (v := .slice a2 m c2) rfl (by kernel_rfl) (by kernel_rfl) (by kernel_rfl) (fun _ _ _ h => h) (Or.inl ⟨by first | (go_simp; done) | rfl, fun X _ => by go_simp⟩) hHeld ?_
        try simp only [Act.put, List.setIfInBounds_toArray, List.set_cons_zero, List.set_cons_succ]
        refine' wpAnyH_take (i := 10) (oi := _) (v := .slice (some ⟨b1, off1, none⟩) (m + 1) c1) rfl (by kernel_rfl) (by kernel_rfl) (by kernel_rfl) (fun _ _ _ h => h) (Or.inl ⟨by first | (go_simp; done) | rfl, fun X _ => by go_simp⟩) hHeld ?_
        try simp only [Act.put, List.setIfInBounds_toArray, List.set_cons_zero, List.set_cons_succ]
        refine' wpAnyH_take (i := 11) (oi := _) (v := .int .i64 ((m : Int) + 1)) rfl (by kernel_rfl) (by kernel_rfl) (by kernel_rfl) (fun _ _ _ h => h) (Or.inl ⟨by first | (go_simp; done) | rfl, fun X _ => by go_simp⟩) hHeld ?_
        try simp only [Act.put, List.setIfInBounds_toArray, List.set_cons_zero, List.set_cons_succ]
        refine' wpAnyH_take (i := 12) (oi := _) (v := .int .i64 (m : Int)) rfl (by kernel_rfl) (by kernel_rfl) (by kernel_rfl) (fun _ _ _ h => h) (Or.inl ⟨by first | (go_simp; done) | rfl, fun X _ => by go_simp⟩) hHeld ?_
        try simp only [Act.put, List.setIfInBounds_toArray, List.set_cons_zero, List.set_cons_succ]
        refine' wpAnyH_take (i := 13) (oi := _) (v := .slice (some ⟨b1, off1, none⟩) m c1) rfl (by kernel_rfl) (by kernel_rfl) (by kernel_rfl) (fun _ _ _ h => h) (Or.inl ⟨by first | (go_simp; done) | rfl, fun X _ => by go_simp⟩) hHeld ?_
        try simp only [Act.put, List.setIfInBounds_toArray, List.set_cons_zero, List.set_cons_succ]
        refine wpAnyH_ready (rs := [14]) (by kernel_rfl) (by simp) ?_
        refine AllReadyH.cons (o := _) rfl (fun K hK => ?_) AllReadyH.nil
        go_simp
        refine (same14_self _ _ L' _ (hl2.out.below (Below.drewSelf _)) (hlt.out.below (Below.drewSelf _))).mono ?_
        rintro e w5 ⟨rfl, hb5⟩
        go_wp2_with fail
        refine hK.out _ _ (⟨rangeAt_keep hHeld.1 hb5, rangeAt_keep hHeld.2 hb5⟩) (fun hHeld => ?_)
        clear hK K
        try simp only [Act.put, List.setIfInBounds_toArray, List.set_cons_zero, List.set_cons_succ]
        refine' wpAnyH_take (i := 15) (oi := _) (v := .bool true) rfl (by kernel_rfl) (by kernel_rfl) (by kernel_rfl) (fun _ _ _ h => h) (Or.inl ⟨by first | (go_simp; done) | rfl, fun X _ => by go_simp⟩) hHeld ?_
        try simp only [Act.put, List.setIfInBounds_toArray, List.set_cons_zero, List.set_cons_succ]
        refine' wpAnyH_take (i := 16) (oi := _) (v := .bool true) rfl (by kernel_rfl) (by kernel_rfl) (by kernel_rfl) (fun _ _ _ h => h) (Or.inl ⟨by first | (go_simp; done) | rfl, fun X _ => by go_simp⟩) hHeld ?_
        try simp only [Act.put, List.setIfInBounds_toArray, List.set_cons_zero, List.set_cons_succ]
        refine' wpAnyH_take (i := 17) (oi := _) (v := .int .i64 0) rfl (by kernel_rfl) (by kernel_rfl) (by kernel_rfl) (fun _ _ _ h => h) (Or.inl ⟨by first | (go_simp; done) | rfl, fun X _ => by go_simp⟩) hHeld ?_
        try simp only [Act.put, List.setIfInBounds_toArray, List.set_cons_zero, List.set_cons_succ]
        refine' wpAnyH_take (i := 18) (oi := _) (v := .bool true) rfl (by kernel_rfl) (by kernel_rfl) (by kernel_rfl) (fun _ _ _ h => h) (Or.inl ⟨by first | (go_simp; done) | rfl, fun X _ => by go_simp⟩) hHeld ?_
        try simp only [Act.put, List.setIfInBounds_toArray, List.set_cons_zero, List.set_cons_succ]
        refine' wpAnyH_take (i := 19) (oi := _) (v := .bool true) rfl (by kernel_rfl) (by kernel_rfl) (by kernel_rfl) (fun _ _ _ h => h) (Or.inl ⟨by first | (go_simp; done) | rfl, fun X _ => by go_simp⟩) hHeld ?_
        try simp only [Act.put, List.setIfInBounds_toArray, List.set_cons_zero, List.set_cons_succ]
        refine' wpAnyH_take (i := 20) (oi := _) (v := .bool true) rfl (by kernel_rfl) (by kernel_rfl) (by kernel_rfl) (fun _ _ _ h => h) (Or.inl ⟨by first | (go_simp; done) | rfl, fun X _ => by go_simp⟩) hHeld ?_
        try simp only [Act.put, List.setIfInBounds_toArray, List.set_cons_zero, List.set_cons_succ]
        refine' wpAnyH_take (i := 21) (oi := _) (v := .agg #[.slice u1 u2 u3, .slice v1 v2 v3]) rfl (by kernel_rfl) (by kernel_rfl) (by kernel_rfl) (fun _ _ _ h => h) (by refine (yieldsIf_load_mid ?_ 28 (.tmp 11) rfl pb (0) ?_ ([.slice u1 u2 u3, .slice v1 v2 v3]) _ (fun X h => h.1) Try.underlying28 rfl (by kernel_rfl)) <;> go_simp) hHeld ?_
        try simp only [Act.put, List.setIfInBounds_toArray, List.set_cons_zero, List.set_cons_succ]
        refine' wpAnyH_take (i := 22) (oi := _) (v := .slice (some ⟨b1, off1, none⟩) (m + 1) c1) rfl (by kernel_rfl) (by kernel_rfl) (by kernel_rfl) (fun _ _ _ h => h) (Or.inl ⟨by first | (go_simp; done) | rfl, fun X _ => by go_simp⟩) hHeld ?_
        try simp only [Act.put, List.setIfInBounds_toArray, List.set_cons_zero, List.set_cons_succ]
        refine' wpAnyH_take (i := 23) (oi := _) (v := .pointer (some ⟨b1, off1, none⟩)) rfl (by kernel_rfl) (by kernel_rfl) (by kernel_rfl) (fun _ _ _ h => h) (Or.inl ⟨by first | (go_simp; done) | rfl, fun X _ => by go_simp⟩) hHeld ?_
        try simp only [Act.put, List.setIfInBounds_toArray, List.set_cons_zero, List.set_cons_succ]
        refine' wpAnyH_take (i := 24) (oi := _) (v := .agg #[mv, bv]) rfl (by kernel_rfl) (by kernel_rfl) (by kernel_rfl) (fun _ _ _ h => h) (by refine (yieldsIf_load_mid ?_ 28 (.tmp 73) rfl b1 (off1 + 0 * 2) ?_ ([mv, bv]) _ (fun X h => h.2) Try.underlying28 rfl (by kernel_rfl)) <;> go_simp) hHeld ?_
        try simp only [Act.put, List.setIfInBounds_toArray, List.set_cons_zero, List.set_cons_succ]
        refine wpAnyH_ready (rs := [25]) (by kernel_rfl) (by simp) ?_
        refine AllReadyH.cons (o := _) rfl (fun K hK => ?_) AllReadyH.nil
        go_simp
        refine (cS.out _ (Bel.to (Below.drewSelf _) hb5)).mono ?_
        rintro e w6 ⟨rfl, hb6⟩
        go_wp2_with fail
        refine hK.out _ _ (⟨rangeAt_keep hHeld.1 hb6, rangeAt_keep hHeld.2 hb6⟩) (fun hHeld => ?_)
        clear hK K
        try simp only [Act.put, List.setIfInBounds_toArray, List.set_cons_zero, List.set_cons_succ]
        refine' wpAnyH_take (i := 26) (oi := _) (v := .bool true) rfl (by kernel_rfl) (by kernel_rfl) (by kernel_rfl) (fun _ _ _ h => h) (Or.inl ⟨by first | (go_simp; done) | rfl, fun X _ => by go_simp⟩) hHeld ?_
        try simp only [Act.put, List.setIfInBounds_toArray, List.set_cons_zero, List.set_cons_succ]
        refine' wpAnyH_take (i := 27) (oi := _) (v := .bool true) rfl (by kernel_rfl) (by kernel_rfl) (by kernel_rfl) (fun _ _ _ h => h) (Or.inl ⟨by first | (go_simp; done) | rfl, fun X _ => by go_simp⟩) hHeld ?_
        try simp only [Act.put, List.setIfInBounds_toArray, List.set_cons_zero, List.set_cons_succ]
        refine wpAnyH_ready (rs := [28]) (by kernel_rfl) (by simp) ?_
        refine AllReadyH.cons (o := _) rfl (fun K hK => ?_) AllReadyH.nil
        go_simp
        refine (awake14_any _).mono ?_
        rintro e w7 ⟨rfl, hb7⟩
        go_wp2_with fail
        refine hK.out _ _ (⟨rangeAt_keep hHeld.1 hb7, rangeAt_keep hHeld.2 hb7⟩) (fun hHeld => ?_)
        clear hK K
        try simp only [Act.put, List.setIfInBounds_toArray, List.set_cons_zero, List.set_cons_succ]
        refine' wpAnyH_take (i := 29) (oi := _) (v := .bool true) rfl (by kernel_rfl) (by kernel_rfl) (by kernel_rfl) (fun _ _ _ h => h) (Or.inl ⟨by first | (go_simp; done) | rfl, fun X _ => by go_simp⟩) hHeld ?_
        try simp only [Act.put, List.setIfInBounds_toArray, List.set_cons_zero, List.set_cons_succ]
        refine' wpAnyH_take (i := 30) (oi := _) (v := .bool true) rfl (by kernel_rfl) (by kernel_rfl) (by kernel_rfl) (fun _ _ _ h => h) (Or.inl ⟨by first | (go_simp; done) | rfl, fun X _ => by go_simp⟩) hHeld ?_
        try simp only [Act.put, List.setIfInBounds_toArray, List.set_cons_zero, List.set_cons_succ]
        refine wpAnyH_done (by kernel_rfl) ?_ _
        go_simp
        go_wp2
        go_ret
        exact ⟨rfl, Bel.to (Bel.to (Bel.to (Bel.to B3 (Below.drewSelf _)) hb5) hb6) hb7⟩
  · have hcn : (c != 0) = true := by simpa using hc
    replace hc := hide hc
    replace hv := hide hv
    unfold gameVal
    go_enter Try.func4, Try.ntmps4
    go_upto_region 1 with (fail)
    obtain ⟨W, hW⟩ : ∃ W, W = (w.alloc (Obj.cells #[.string g.name, .int .i64 g.kind, .int .i64 g.price, .int .i64 g.main, .int .i64 g.of, .int .i64 g.bonus, .int .i64 g.bonusOf, .int .i64 g.extra, .int .i64 g.draws, .int .i64 g.system, .int .i64 g.days, .int .i64 g.at_, .int .i64 g.close, .int .i64 g.cancel, .int .i64 g.expiry, .int .i64 g.pool, .int .i64 g.reserve, .int .i64 g.round, .int .i64 g.cap, .int .i64 g.rolls, (.slice aa ms.length ac), (.slice ta g.tiers.length tc)] 25)) := ⟨_, rfl⟩
    have bW : Below w.heap.size w W := by rw [hW]; exact Bel.al (Below.refl _ _) _
    have r0 : GameAt W (w.heap.size) g ((.slice aa ms.length ac)) ((.slice ta g.tiers.length tc)) := by rw [hW]; exact Row.new _ _ _
    have sW : w.heap.size < W.heap.size := by rw [hW]; simp
    rw [← hW]
    clear hW
    go_wp2_with (first | (refine wpList_load_row rfl 25 _ rfl _ rfl _ _ _ _ r0 Try.underlying25 rfl (by kernel_rfl) ?_) | fail)
    refine (cF.out _ (hh.out.below bW)).mono ?_
    rintro e w1 ⟨q, rfl, b1⟩
    have B1 := Bel.to bW b1
    replace r0 := r0.keep b1
    clear bW b1 cF sW
    cases q with
    | false =>
      go_wp2_with fail
      refine (awake14_any _).mono ?_
      rintro e w7 ⟨rfl, b7⟩
      go_wp2
      go_ret
      exact ⟨rfl, Bel.to B1 b7⟩
    | true =>
      go_wp2_with (first | (refine wpList_load_row rfl 25 _ rfl _ rfl _ _ _ _ r0 Try.underlying25 rfl (by kernel_rfl) ?_) | fail)
      refine (cL.out _ (hh.out.below B1)).mono ?_
      rintro e wA ⟨va, rfl, hlA, bA⟩
      have BA := Bel.to B1 bA
      obtain ⟨a1', c1, rfl, hc1, hm1⟩ := hlA.shape
      clear hlA
      go_wp2_with fail
      refine (awake14_any _).mono ?_
      rintro e w7 ⟨rfl, b7⟩
      go_wp2
      go_ret
      exact ⟨rfl, Bel.to BA b7⟩

theorem begins14_any (g : GameD) (av tv : Value) (ms : List AddonM) (x n : Int) (w : World) (h : GameR w av tv ms g) (h0 : 0 ≤ x) (hx : x ≤ 18446744073709551615) : Calls Try.prog 4 #[gameVal g av tv, .int .u64 x, .int .i64 n] w (BoolB true w) := by
  obtain ⟨x, rfl⟩ := Int.eq_ofNat_of_zero_le h0
  by_cases hn : n < 1 ∨ 200 < n
  · exact begins14_out g av tv ms x n w h hn
  · obtain ⟨m, hm⟩ := Int.eq_ofNat_of_zero_le (show 0 ≤ n - 1 by omega)
    obtain rfl : n = (m : Int) + 1 := by omega
    exact begins14_in g av tv ms x m w h (by omega)
end Go.Proofs.Ytokhhccokjfgjaa
end

section
/- QuickpickBegins: for every input the Go function lotterylaw14.QuickpickBegins returns true, and each argument reads afterwards as before. Conditions: none. -/
namespace Go.Proofs.Ytokhhccokjfgjaa.quickpickBegins
open Go.ChangeShapes Go.WideShapes Go.ChangeAt Go.RowKit
set_option linter.unusedVariables false

theorem own : ownKnob Try.prog.godebug = none := by kernel_rfl
theorem laidOut : laidOutB Try.prog = true := by kernel_rfl

set_option maxRecDepth 100000 in
theorem lifted (os : Os) (started : os.Started) (H : Type) (enc : TypeId × Value → H) :
    ReturnsInHanded {} Try.checked os 4 .any (Rows.quickpickBeginsSpec.pre6 enc Try.prog Try.f4 Rows.quickpickBeginsRow.domain false) (Rows.quickpickBeginsSpec.post enc Try.prog Try.f4 false true false false) := by
  refine returnsInHanded_of_change (C := Try.checked) own started (by kernel_rfl) Try.func4
    (ChangeSpec.witness6 (enc := enc) (C := Try.checked) false ⟨#[], #[.agg #[.string ⟨#[]⟩, .int .i64 0, .int .i64 0, .int .i64 0, .int .i64 0, .int .i64 0, .int .i64 0, .int .i64 0, .int .i64 0, .int .i64 0, .int .i64 0, .int .i64 0, .int .i64 0, .int .i64 0, .int .i64 0, .int .i64 0, .int .i64 0, .int .i64 0, .int .i64 0, .int .i64 0, .slice none 0 0, .slice none 0 0], .int .u64 0, .int .i64 0], []⟩ 8 (by kernel_rfl) (by kernel_rfl) (by kernel_rfl) (by kernel_rfl)) ?_
  intro W base args ds gs before hval0 hW hcnd _
  have hval : ∀ (j : Nat) t v, Try.f4.params[j]? = some t → args[j]? = some v → Value.okWide Try.prog W .any base t v := hval0
  have hW' := hW
  obtain ⟨p, q, hA0, hV, rfl, hfz, hnd⟩ := hW
  have hA : DataW.TrodAll enc Try.prog W 0 (fun _ => true) true Try.f4.params.toList args.toList ds p := hA0
  rw [Try.params4] at hA hval
  obtain ⟨v0, vs0, d0, ds0, p0, q0, hargs, rfl, rfl, h0, r0⟩ := trodAll_cons hA
  obtain ⟨v1, vs1, d1, ds1, p1, q1, rfl, rfl, rfl, h1, r1⟩ := trodAll_cons r0
  obtain ⟨v2, vs2, d2, ds2, p2, q2, rfl, rfl, rfl, h2, r2⟩ := trodAll_cons r1
  obtain ⟨rfl, rfl, rfl⟩ := trodAll_nil r2
  obtain rfl : args = #[v0, v1, v2] := by cases args; simp_all
  obtain ⟨rfl, rfl⟩ := trodVars_none hV
  obtain ⟨cs0, rfl, hsz0⟩ := okWide_struct Try.underlying25 (hval 0 25 v0 rfl rfl)
  have k0 := h0
  have lt0 : ∀ x ∈ p0, x.block < W.heap.size := by obtain ⟨m, hm⟩ := k0; exact DataW.trod_lt m _ _ _ hm
  obtain ⟨g0, av0, tv0, ms0, eg0, rg0⟩ := game_trod h0
  rw [eg0] at k0 hW' ⊢
  obtain ⟨a1, rfl, rfl, rfl, w1⟩ := open_int Try.underlying36 (hval 1 36 v1 rfl rfl) h1
  have b1 := bounds_u64 w1
  obtain ⟨a2, rfl, rfl, rfl, w2⟩ := open_int Try.underlying3 (hval 2 3 v2 rfl rfl) h2
  have b2 := bounds_i64 w2
  clear hA0 hval0
  refine (begins14_any g0 av0 tv0 ms0 a1 a2 W rg0 (by omega) (by omega)).mono fun e W' ⟨he, bel⟩ => ?_
  subst he
  exact ⟨_, rfl, _, _, _, [], _, [], hW', trodAll_mk1 (shut_bool Try.underlying4 _), (trodAll_cons_mk (Below.trod laidOut (by kernel_rfl) (of_decide_eq_true (by kernel_rfl)) k0 bel lt0) (trodAll_cons_mk (shut_int Try.underlying36 w1) (trodAll_cons_mk (shut_int Try.underlying3 w2) trodAll_mk0))), rfl, bel.frame _, fun h => by cases h⟩

theorem over : Rows.quickpickBeginsRow.holds Try.pinned (OpenSpec.ofChange Rows.quickpickBeginsSpec) :=
  OpenClaim.holds_of_wide 4 Try.f4 rfl rfl rfl rfl rfl rfl rfl ⟨rfl, rfl, rfl, rfl, rfl⟩ rfl rfl rfl rfl rfl (by kernel_rfl) Try.func4 (by kernel_rfl)
    (of_decide_eq_true (by kernel_rfl)) (by unfold Func.isWrapper; first | (rw [if_pos (by decide +kernel)]; kernel_rfl) | (rw [if_neg (by decide +kernel)]; exact ⟨rfl, rfl⟩))
    (fun os started H enc _ => lifted os started H enc)

theorem proved : Rows.QuickpickBeginsSaid := over
#print axioms proved
end Go.Proofs.Ytokhhccokjfgjaa.quickpickBegins
end

/- WinnerFunction: for every input the Go function lotterylaw34.WinnerFunction returns true, and each argument reads afterwards as before. Conditions: none. -/
import Derived.Test.YtfggjlekcdpmmaaGreatRows
import Derived.WalkKit
import Derived.ProofKit
import Derived.OpenShut
import Derived.ChangeOld
import Derived.Below
import Derived.Test.YtfggjlekcdpmmaaGreatGWinC
import Derived.Test.YtfggjlekcdpmmaaGreatGTrodB
import Derived.Test.YtfggjlekcdpmmaaGreatGTrod

section
/- lotterylaw34.WinnerFunction: the walk. No condition. -/
open Go.RowKit
set_option linter.unusedVariables false
set_option linter.unusedSimpArgs false
namespace Go.Proofs.YtfggjlekcdpmmaaGreat

theorem winsP_ticket_lt {g : GameD} {ts : List TicketD} {draw : Int} {r : ResD} : ∀ x ∈ (winsP g ts draw r).1, x.ticket < (ts.length : Int) := by
  intro x hx
  by_cases h : (winsP g ts draw r).2 = 0
  · obtain ⟨h1, h2, h3⟩ := winsP_ok h
    rw [h3] at hx
    obtain ⟨p, hp, hx⟩ := List.mem_flatMap.1 hx
    rw [winsL_ticket _ _ _ _ x hx]
    obtain ⟨-, h4, -⟩ := eligGo_mem hp
    omega
  · rw [winsP_bad h] at hx
    cases hx
/-- append of structs, where the guard lets it by. -/
theorem wpList_appendS_if {P : Program} {w : World} {α : Type} {sz : Nat} {V : α → List Value} {R : World → α → Prop} {ops : Array Oper} {rest : List Oper} {o : Oper} {a : Act} {Q : Exit → Act → World → Prop} (hgd : Region.wanted o (yielded ops a.tmps) = true) (s x : Operand) (t : TypeId)
    (ho : o.op = .call { callee := .builtin .append, args := #[s, x], argTypes := #[t, t] })
    (hV : ∀ x, (V x).length = sz) (base : Nat) (e : TypeId) (z : Value) (bytes : Nat) (ht : P.underlying t = some (.slice e)) (hi : (P.info? e).map (fun i => (i.zero, i.size, i.bytes)) = some (some z, sz, bytes)) (hzs : z.cells.size = sz) (hsz : 0 < sz)
    (v : Value) (l : List α) (hs : a.eval s = v) (hown : OwnS sz V R w base e v l) (u : Value) (l2 : List α) (hx : a.eval x = u) (hr : RdS sz V w u l2) (hR : ∀ x ∈ l2, Stay w v.ownBlock fun X => R X x) (hone : ∀ x ∈ l2, ∀ u ∈ V x, u.oneCell' = true)
    (h63 : l.length + l2.length ≤ 9223372036854775807) (hbytes : (l.length + l2.length) * bytes ≤ 140737488355328) (hbase : base ≤ w.heap.size)
    (h : ∀ v' w', OwnS sz V R w' base e v' (l ++ l2) → w.grownBy w' v.ownBlock → (v'.ownBlock = v.ownBlock ∨ v'.ownBlock = some w.heap.size) → wpList P ops Q rest (a.put o.dst v') w') : wpList P ops Q (o :: rest) a w := by
  refine wpList_step fun K hK => ?_
  rw [if_pos hgd]
  obtain ⟨v', w', hr, h2, h3, h4⟩ := run_appendS (P := P) w hV base t o.type e z bytes ht hi hzs hsz v l hown u l2 hr hR hone h63 hbytes hbase
  unfold Oper.wp execOp
  simp only [ho, resolve, invoke, builtin, Sem.run_bind, Sem.run_pure, Result.andThen_ok, List.map_toArray, List.map_cons, List.map_nil, hs, hx, hr]
  exact hK _ _ (h v' w' h2 h3 h4)

set_option maxHeartbeats 16000000 in
set_option maxRecDepth 100000 in
theorem function34_walk (g : GameD) (av tv : Value) (ms : List AddonM) (va vb : Value) (ma mb : List TickM) (nn : Int) (mv bv xv : Value) (r : ResD) (w : World) (rg : GameR w av tv ms g) (ra : TicketsR w va ma) (rb : TicketsR w vb mb) (rd : ResR w mv bv xv r) (hin : InI nn) :
    Calls Tryz.prog 5 #[gameVal g av tv, .agg #[va, vb], drawVal nn mv bv xv r] w (BoolB true w) := by
  have cG := hide (fun X (hX : Below w.heap.size w X) => small25_any g av tv ms w X rg hX)
  have cFa := hide (fun X (hX : Below w.heap.size w X) => few34_any va ma 6 w X ra hX (by decide))
  have cFb := hide (fun X (hX : Below w.heap.size w X) => few34_any vb mb 6 w X rb hX (by decide))
  have cR := hide (fun X (hX : Below w.heap.size w X) => result34_any mv bv xv r w X rd hX)
  obtain ⟨aa, ac, rfl, -, -⟩ := rg.1.1.shape
  obtain ⟨ta0, tc, rfl, -, -⟩ := rg.2.2.shape
  obtain ⟨va0, vc0, rfl, -, -⟩ := ra.1.shape
  obtain ⟨vb0, vd0, rfl, -, -⟩ := rb.1.shape
  obtain ⟨ma0, mc, rfl, -, -, -⟩ := rd.1.form
  obtain ⟨ba, bc, rfl, -, -, -⟩ := rd.2.1.form
  obtain ⟨xa, xc, rfl, -, -, -⟩ := rd.2.2.form
  obtain ⟨na, hna⟩ : ∃ n, n = ma.length := ⟨_, rfl⟩
  obtain ⟨nb, hnb⟩ : ∃ n, n = mb.length := ⟨_, rfl⟩
  rw [← hna] at cFa ⊢
  rw [← hnb] at cFb ⊢
  clear rg ra rb rd hna hnb
  unfold gameVal at cG
  unfold resVal at cR
  unfold gameVal drawVal
  go_enter Tryz.func5, Tryz.ntmps5
  go_upto_region 1 with (fail)
  obtain ⟨W, hW⟩ : ∃ W, W = (((w.alloc (Obj.cells #[.string g.name, .int .i64 g.kind, .int .i64 g.price, .int .i64 g.main, .int .i64 g.of, .int .i64 g.bonus, .int .i64 g.bonusOf, .int .i64 g.extra, .int .i64 g.draws, .int .i64 g.system, .int .i64 g.days, .int .i64 g.at_, .int .i64 g.close, .int .i64 g.cancel, .int .i64 g.expiry, .int .i64 g.pool, .int .i64 g.reserve, .int .i64 g.round, .int .i64 g.cap, .int .i64 g.rolls, (.slice aa ms.length ac), (.slice ta0 g.tiers.length tc)] 25)).alloc (Obj.cells #[.slice va0 na vc0, .slice vb0 nb vd0] 44)).alloc (Obj.cells #[.int .i64 nn, .slice ma0 r.main.length mc, .slice ba r.bonus.length bc, .slice xa r.extra.length xc, .int .i64 r.factor, .string r.serial] 31)) := ⟨_, rfl⟩
  have bW : Below w.heap.size w W := by rw [hW]; exact Bel.al (Bel.al (Bel.al (Below.refl _ _) _) _) _
  have r0 : GameAt W (w.heap.size) g ((.slice aa ms.length ac)) ((.slice ta0 g.tiers.length tc)) := by rw [hW]; exact Row.alloc (Row.alloc (Row.new _ _ _) _) _
  have r1 : Row W ((w.heap.size + 1)) 44 [.slice va0 na vc0, .slice vb0 nb vd0] := by rw [hW]; exact Row.alloc (Row.at2 _ _ _ _) _
  have r2 : Row W ((w.heap.size + 1 + 1)) 31 [.int .i64 nn, .slice ma0 r.main.length mc, .slice ba r.bonus.length bc, .slice xa r.extra.length xc, .int .i64 r.factor, .string r.serial] := by rw [hW]; exact Row.at3 _ _ _ _ _
  have sW : w.heap.size + 1 + 1 < W.heap.size := by rw [hW]; simp
  rw [← hW]
  clear hW
  go_wp2_with (first | (refine wpList_load_row rfl 25 _ rfl _ rfl _ _ _ _ r0 Tryz.underlying25 rfl (by kernel_rfl) ?_) | fail)
  refine (cG.out _ bW).mono ?_
  rintro e w1 ⟨g1, av1, tv1, ms1, rfl, K1, hgt, hb1⟩
  obtain ⟨aa1, ac1, rfl, -, -⟩ := (K1.now hb1 bW).1.1.shape
  obtain ⟨ta1, tc1, rfl, -, -⟩ := (K1.now hb1 bW).2.2.shape
  have B1 := Bel.to bW hb1
  have q0 := Row.keep r0 hb1
  have q1 := Row.keep r1 hb1
  have q2 := Row.keep r2 hb1
  go_upto_region 2 with (first | ((with_reducible refine wpList_store_game rfl _ _ rfl w.heap.size g1 _ _ rfl rfl ⟨_, _, _, rfl⟩ ⟨_, _, _, rfl⟩ _ q0 ?_ ?_); (rfl); intro A rA gA) | fail)
  have bA : Below w.heap.size w A := B1.grown gA B1.size (fun q hq => by injection hq with hq; omega)
  have HG : ∀ X, Below A.heap.size A X → GameR X (.slice aa1 ms1.length ac1) (.slice ta1 g1.tiers.length tc1) ms1 g1 := fun X hX =>
    K1 X (Bel.to bA hX) (((SameR.refl W.heap.size w1).then gA (fun q hq => by injection hq with hq; omega)).keep hX)
  have rV := Row.grown q1 gA (by intro e; injection e with e; omega)
  have rD := Row.grown q2 gA (by intro e; injection e with e; omega)
  clear K1 q0 q1 q2 r0 r1 r2 gA hb1 B1 bW cG
  refine wp_region_held_drew (S := fun X => Rng X [(w.heap.size + 1, [.slice va0 na vc0, .slice vb0 nb vd0])]) (by kernel_rfl) (Rng.drew (Rng.cons rV (Rng.nil _))) (fun hHeld => ?_)
  refine' wpAnyH_take (i := 0) (oi := _) (v := .pointer (some ⟨w.heap.size + 1, 0, none⟩)) rfl (by kernel_rfl) (by kernel_rfl) (by kernel_rfl) (fun _ _ _ h => h) (Or.inl ⟨by first | (go_simp; done) | rfl, fun X _ => by go_simp⟩) hHeld ?_
  try simp only [Act.put, List.setIfInBounds_toArray, List.set_cons_zero, List.set_cons_succ]
  refine' wpAnyH_take (i := 1) (oi := _) (v := .slice va0 na vc0) rfl (by kernel_rfl) (by kernel_rfl) (by kernel_rfl) (fun _ _ _ h => h) (Or.inl ⟨by first | (go_simp; done) | rfl, fun X hX => by have cX := Rng.cell0 hX 0 _ rfl; go_simp⟩) hHeld ?_
  try simp only [Act.put, List.setIfInBounds_toArray, List.set_cons_zero, List.set_cons_succ]
  refine' wpAnyH_take (i := 3) (oi := _) (v := .pointer (some ⟨w.heap.size + 1, 1, none⟩)) rfl (by kernel_rfl) (by kernel_rfl) (by kernel_rfl) (fun _ _ _ h => h) (Or.inl ⟨by first | (go_simp; done) | rfl, fun X _ => by go_simp⟩) hHeld ?_
  try simp only [Act.put, List.setIfInBounds_toArray, List.set_cons_zero, List.set_cons_succ]
  refine' wpAnyH_take (i := 4) (oi := _) (v := .slice vb0 nb vd0) rfl (by kernel_rfl) (by kernel_rfl) (by kernel_rfl) (fun _ _ _ h => h) (Or.inl ⟨by first | (go_simp; done) | rfl, fun X hX => by have cX := Rng.cell0 hX 1 _ rfl; go_simp⟩) hHeld ?_
  try simp only [Act.put, List.setIfInBounds_toArray, List.set_cons_zero, List.set_cons_succ]
  refine wpAnyH_ready (rs := [2]) (by kernel_rfl) (by simp) ?_
  refine AllReadyH.cons (o := _) rfl (fun K hK => ?_) AllReadyH.nil
  go_simp
  refine (cFa.out _ bA.drew).mono ?_
  rintro e w2 ⟨u, ta, rfl, K2, hb2l, hb2⟩
  obtain ⟨ka1, kc1, rfl, -, -⟩ := (K2.now hb2 bA.drew).1.shape
  go_wp2_with fail
  refine hK.out _ _ (hHeld.keep hb2) (fun hHeld => ?_)
  clear hK K
  try simp only [Act.put, List.setIfInBounds_toArray, List.set_cons_zero, List.set_cons_succ]
  refine wpAnyH_ready (rs := [5]) (by kernel_rfl) (by simp) ?_
  refine AllReadyH.cons (o := _) rfl (fun K hK => ?_) AllReadyH.nil
  go_simp
  refine (cFb.out _ (Bel.to bA.drew hb2)).mono ?_
  rintro e w3 ⟨u, tb, rfl, K3, hb3l, hb3⟩
  obtain ⟨ka2, kc2, rfl, -, -⟩ := (K3.now hb3 (Bel.to bA.drew hb2)).1.shape
  go_wp2_with fail
  refine hK.out _ _ (hHeld.keep hb3) (fun hHeld => ?_)
  clear hK K
  try simp only [Act.put, List.setIfInBounds_toArray, List.set_cons_zero, List.set_cons_succ]
  refine' wpAnyH_take (i := 6) (oi := _) (v := .slice ka1 ta.length kc1) rfl (by kernel_rfl) (by kernel_rfl) (by kernel_rfl) (fun _ _ _ h => h) (Or.inl ⟨by first | (go_simp; done) | rfl, fun X _ => by go_simp⟩) hHeld ?_
  try simp only [Act.put, List.setIfInBounds_toArray, List.set_cons_zero, List.set_cons_succ]
  refine' wpAnyH_take (i := 7) (oi := _) (v := .slice ka2 tb.length kc2) rfl (by kernel_rfl) (by kernel_rfl) (by kernel_rfl) (fun _ _ _ h => h) (Or.inl ⟨by first | (go_simp; done) | rfl, fun X _ => by go_simp⟩) hHeld ?_
  try simp only [Act.put, List.setIfInBounds_toArray, List.set_cons_zero, List.set_cons_succ]
  refine wpAnyH_done (by kernel_rfl) ?_ _
  go_simp
  clear hHeld
  have B3 := Bel.to (Bel.to bA.drew hb2) hb3
  have HTa : ∀ X, Below w3.heap.size w3 X → TicketsR X (.slice ka1 ta.length kc1) ta := fun X hX => K2 X (Bel.to B3 hX) (((SameR.refl A.drew.heap.size w2).keep hb3).keep hX)
  have HTb : ∀ X, Below w3.heap.size w3 X → TicketsR X (.slice ka2 tb.length kc2) tb := fun X hX => K3 X (Bel.to B3 hX) ((SameR.refl w2.heap.size w3).keep hX)
  have hb23 := Bel.to (Bel.to (Below.drewSelf A) hb2) hb3
  have rA := Row.keep rA hb23
  have rD := Row.keep rD hb23
  have HG3 : ∀ X, Below w3.heap.size w3 X → GameR X (.slice aa1 ms1.length ac1) (.slice ta1 g1.tiers.length tc1) ms1 g1 := fun X hX => HG X (Bel.to hb23 hX)
  have hta6 : Hid (ta.length ≤ 6) := hb2l
  have htb6 : Hid (tb.length ≤ 6) := hb3l
  clear K2 K3 HG rV bA hb2 hb3 hb23 cFa cFb hb2l hb3l
  have hrD : w3.rangeAt (w.heap.size + 1 + 1) 1 [.slice ma0 r.main.length mc, .slice ba r.bonus.length bc, .slice xa r.extra.length xc, .int .i64 r.factor, .string r.serial] := by
    intro j u hu
    have h9 : ([.int .i64 nn, .slice ma0 r.main.length mc, .slice ba r.bonus.length bc, .slice xa r.extra.length xc, .int .i64 r.factor, .string r.serial] : List Value)[1 + j]? = some u := by rw [Nat.add_comm, List.getElem?_cons_succ]; exact hu
    rw [rD.cell?]
    exact h9
  go_wp2_with (first | (refine wpList_load_mid rfl 29 _ rfl (w.heap.size + 1 + 1) 1 rfl [.slice ma0 r.main.length mc, .slice ba r.bonus.length bc, .slice xa r.extra.length xc, .int .i64 r.factor, .string r.serial] _ hrD Tryz.underlying29 rfl (by kernel_rfl) ?_) | fail)
  refine (cR.out _ B3).mono ?_
  rintro e w4 ⟨mv1, bv1, xv1, r2, rfl, K4, hs20, hb4⟩
  have B4 := Bel.to B3 hb4
  obtain ⟨ma1, mc1, rfl, -, -, -⟩ := (K4 w4 B4).1.form
  obtain ⟨ba1, bc1, rfl, -, -, -⟩ := (K4 w4 B4).2.1.form
  obtain ⟨xa1, xc1, rfl, -, -, -⟩ := (K4 w4 B4).2.2.form
  unfold resVal
  have hthere := hide (show (w4.alloc (.cells #[.slice none 0 0, .slice none 0 0, .slice none 0 0, .int .i64 0, .string ⟨#[]⟩] 29)).there w4.heap.size 0 5 from Row.there (Row.newOf (cs := [.slice none 0 0, .slice none 0 0, .slice none 0 0, .int .i64 0, .string ⟨#[]⟩]) _ rfl))
  go_upto_region 4 with (first | (refine wpList_store_mid rfl 29 _ _ rfl w4.heap.size 0 _ rfl rfl hthere.out (by kernel_rfl) (by rfl) ?_) | fail)
  obtain ⟨Z, hZ⟩ : ∃ Z, Z = w4.alloc (.cells #[.slice ma1 r2.main.length mc1, .slice ba1 r2.bonus.length bc1, .slice xa1 r2.extra.length xc1, .int .i64 r2.factor, .string r2.serial] 29) := ⟨_, rfl⟩
  have bZ : Below w4.heap.size w4 Z := by rw [hZ]; exact Bel.al (Below.refl _ _) _
  have rR : Row Z w4.heap.size 29 [.slice ma1 r2.main.length mc1, .slice ba1 r2.bonus.length bc1, .slice xa1 r2.extra.length xc1, .int .i64 r2.factor, .string r2.serial] := by rw [hZ]; exact Row.newOf _ rfl
  rw [← hZ]
  have b3Z := Bel.to hb4 bZ
  have rA := Row.keep rA b3Z
  have rD := Row.keep rD b3Z
  have BZ := Bel.to B3 b3Z
  have HR := hide (fun X (hX : Below Z.heap.size Z X) => K4 X (Bel.to BZ hX))
  have HG2 := hide (fun X (hX : Below Z.heap.size Z X) => HG3 X (Bel.to b3Z hX))
  have HTa2 := hide (fun X (hX : Below Z.heap.size Z X) => HTa X (Bel.to b3Z hX))
  have HTb2 := hide (fun X (hX : Below Z.heap.size Z X) => HTb X (Bel.to b3Z hX))
  obtain ⟨rb, hrb⟩ : ∃ rb, rb = w4.heap.size := ⟨_, rfl⟩
  rw [← hrb] at rR ⊢
  obtain ⟨na1, hna1⟩ : ∃ n, n = ta.length := ⟨_, rfl⟩
  obtain ⟨nb1, hnb1⟩ : ∃ n, n = tb.length := ⟨_, rfl⟩
  rw [← hna1] at HTa2 ⊢
  rw [← hnb1] at HTb2 ⊢
  clear hZ bZ b3Z hb4 hthere hrD HG3 HTa HTb K4 hrb cR B3 B4
  have xD : Z.cell? ⟨w.heap.size + 1 + 1, 0, none⟩ = some (.int .i64 nn) := (rD.cell? 0).trans rfl
  have cW := fun (ts : Value) (tl : List TickM) (X : World) (hX : Below Z.heap.size Z X) (ht : TicketsR X ts tl) (hn : tl.length ≤ 900) => wins_any g1 _ _ ts _ _ _ ms1 tl nn r2 X (HG2.out X hX) ht (HR.out X hX) (by omega) hin hn
  have cWa := cW _ ta Z (Below.refl _ _) (HTa2.out Z (Below.refl _ _)) (by have := hta6.out; omega)
  obtain ⟨tsa, htsa⟩ : ∃ ts, ts = ta.map (·.d) := ⟨_, rfl⟩
  obtain ⟨tsb, htsb⟩ : ∃ ts, ts = tb.map (·.d) := ⟨_, rfl⟩
  rw [← htsa] at cWa
  replace htsa := hide htsa
  replace htsb := hide htsb
  replace hna1 := hide hna1
  replace hnb1 := hide hnb1
  unfold gameVal resVal at cWa cW
  replace cW := hide cW
  replace cWa := hide cWa
  have hone_a : Hid (∀ x ∈ ta, ∀ u ∈ x.cells, u.oneCell' = true) := by
    intro x hx u hu
    have h9 := ((HTa2.out Z (Below.refl _ _)).2 x hx).1.one
    simp only [TickM.cells, List.mem_cons, List.not_mem_nil, or_false] at hu
    rcases hu with rfl | rfl | rfl | rfl | rfl | rfl | rfl | rfl | rfl | rfl | rfl | rfl | rfl | rfl <;> first | rfl | exact h9
  have hone_b : Hid (∀ x ∈ tb, ∀ u ∈ x.cells, u.oneCell' = true) := by
    intro x hx u hu
    have h9 := ((HTb2.out Z (Below.refl _ _)).2 x hx).1.one
    simp only [TickM.cells, List.mem_cons, List.not_mem_nil, or_false] at hu
    rcases hu with rfl | rfl | rfl | rfl | rfl | rfl | rfl | rfl | rfl | rfl | rfl | rfl | rfl | rfl <;> first | rfl | exact h9
  obtain ⟨PA, hPA⟩ : ∃ P, P = winsP g1 tsa nn r2 := ⟨_, rfl⟩
  obtain ⟨PB, hPB⟩ : ∃ P, P = winsP g1 tsb nn r2 := ⟨_, rfl⟩
  rw [← hPA] at cWa
  have hl12 : tsa.length + tsb.length ≤ 2048 := by rw [htsa.out, htsb.out, List.length_map, List.length_map]; have := hta6.out; have := htb6.out; omega
  have hBoth := fun ha hb => wins_both (g := g1) (a := tsa) (b := tsb) (draw := nn) (r := r2) hl12 ha hb
  have hBad := fun h => wins_both_bad (g := g1) (a := tsa) (b := tsb) (draw := nn) (r := r2) hl12 h
  have hLenA := fun h => winsP_len (g := g1) (ts := tsa) (draw := nn) (r := r2) h
  have hLenB := fun h => winsP_len (g := g1) (ts := tsb) (draw := nn) (r := r2) h
  have hTk0 := winsP_ticket (g := g1) (ts := tsb) (draw := nn) (r := r2)
  have hTk1 := winsP_ticket_lt (g := g1) (ts := tsb) (draw := nn) (r := r2)
  have hZbad := fun h => winsP_bad (g := g1) (ts := tsa ++ tsb) (draw := nn) (r := r2) h
  rw [← hPA, ← hPB] at hBoth hBad
  rw [← hPA] at hLenA
  rw [← hPB] at hLenB hTk0 hTk1
  rw [show tsa.length = na1 by rw [htsa.out, List.length_map, hna1.out]] at hBoth hLenA
  rw [show tsb.length = nb1 by rw [htsb.out, List.length_map, hnb1.out]] at hLenB hTk1
  obtain ⟨EA, ca⟩ := PA
  obtain ⟨EB, cb⟩ := PB
  simp only [] at cWa hBoth hBad hLenA hLenB hTk0 hTk1
  replace hBoth := hide hBoth
  replace hBad := hide hBad
  replace hLenA := hide hLenA
  replace hLenB := hide hLenB
  replace hTk0 := hide hTk0
  replace hTk1 := hide hTk1
  replace hZbad := hide hZbad
  replace hPB := hide hPB
  clear hPA hl12
  go_wp2_with (first | (refine wpList_load_row rfl 25 _ rfl _ rfl _ _ _ _ rA Tryz.underlying25 rfl (by kernel_rfl) ?_) | (refine wpList_load_row rfl 29 _ rfl _ rfl _ _ _ _ rR Tryz.underlying29 rfl (by kernel_rfl) ?_) | fail)
  refine (cWa.out).mono ?_
  rintro e w5 ⟨v5, rfl, hoA, hb5⟩
  obtain ⟨ea0, ea1, rfl⟩ := OwnS.shape hoA
  have rA5 := Row.keep rA hb5
  have rR5 := Row.keep rR hb5
  have rD5 := Row.keep rD hb5
  have xD5 : w5.cell? ⟨w.heap.size + 1 + 1, 0, none⟩ = some (.int .i64 nn) := (rD5.cell? 0).trans rfl
  have cWb := cW.out _ tb w5 hb5 (HTb2.out w5 hb5) (by have := htb6.out; omega)
  rw [← htsb.out, ← hPB.out] at cWb
  simp only [] at cWb
  replace cWb := hide cWb
  have hoAr := hide (OwnWin.rd hoA)
  have hoAlt := hide (OwnS.lt hoA)
  have hoA9 := hide hoA
  have hb5s : Hid (Z.heap.size ≤ w5.heap.size) := hb5.size
  clear rA rR rD xD cWa hoA
  go_wp2_with (first | (refine wpList_load_row rfl 25 _ rfl _ rfl _ _ _ _ rA5 Tryz.underlying25 rfl (by kernel_rfl) ?_) | (refine wpList_load_row rfl 29 _ rfl _ rfl _ _ _ _ rR5 Tryz.underlying29 rfl (by kernel_rfl) ?_) | fail)
  refine (cWb.out).mono ?_
  rintro e w6 ⟨v6, rfl, hoB, hb6⟩
  obtain ⟨eb0, eb1, rfl⟩ := OwnS.shape hoB
  have rA6 := Row.keep rA5 hb6
  have rR6 := Row.keep rR5 hb6
  have rD6 := Row.keep rD5 hb6
  have hb56 := hide (Bel.to hb5 hb6)
  have HTa6 := hide (fun X (hX : Below w6.heap.size w6 X) => HTa2.out X (Bel.to hb56.out hX))
  have HTb6 := hide (fun X (hX : Below w6.heap.size w6 X) => HTb2.out X (Bel.to hb56.out hX))
  have hb6h := hide hb6
  clear rA5 rR5 rD5 xD5 cWb hb6
  go_upto_region 6 with (fail)
  refine wp_region_held_drew (S := fun X => Rng X [(w.heap.size, gameCells g1 (.slice aa1 ms1.length ac1) (.slice ta1 g1.tiers.length tc1)), (rb, [.slice ma1 r2.main.length mc1, .slice ba1 r2.bonus.length bc1, .slice xa1 r2.extra.length xc1, .int .i64 r2.factor, .string r2.serial])] ∧ X.cell? ⟨w.heap.size + 1 + 1, 0, none⟩ = some (.int .i64 nn)) (by kernel_rfl) (⟨Rng.drew (Rng.cons rA6 (Rng.cons rR6 (Rng.nil _))), (rD6.cell? 0).trans rfl⟩) (fun hHeld => ?_)
  refine' wpAnyH_take (i := 0) (oi := _) (v := _) rfl (by kernel_rfl) (by kernel_rfl) (by kernel_rfl) (fun _ _ _ h => h) (yieldsIf_load_mid (by first | (go_simp; done) | rfl) 25 (.tmp 3) rfl (w.heap.size) (0) rfl (gameCells g1 (.slice aa1 ms1.length ac1) (.slice ta1 g1.tiers.length tc1)) _ (fun X h => Rng.at0 h.1) Tryz.underlying25 rfl (by kernel_rfl)) hHeld ?_
  try simp only [Act.put, List.setIfInBounds_toArray, List.set_cons_zero, List.set_cons_succ]
  refine' wpAnyH_take (i := 2) (oi := _) (v := .slice ka1 na1 kc1) rfl (by kernel_rfl) (by kernel_rfl) (by kernel_rfl) (fun _ _ _ h => h) (Or.inl ⟨by first | (go_simp; done) | rfl, fun X _ => by go_simp⟩) hHeld ?_
  try simp only [Act.put, List.setIfInBounds_toArray, List.set_cons_zero, List.set_cons_succ]
  refine' wpAnyH_take (i := 4) (oi := _) (v := .slice ka2 nb1 kc2) rfl (by kernel_rfl) (by kernel_rfl) (by kernel_rfl) (fun _ _ _ h => h) (Or.inl ⟨by first | (go_simp; done) | rfl, fun X _ => by go_simp⟩) hHeld ?_
  try simp only [Act.put, List.setIfInBounds_toArray, List.set_cons_zero, List.set_cons_succ]
  refine' wpAnyH_take (i := 6) (oi := _) (v := .pointer (some ⟨w.heap.size + 1 + 1, 0, none⟩)) rfl (by kernel_rfl) (by kernel_rfl) (by kernel_rfl) (fun _ _ _ h => h) (Or.inl ⟨by first | (go_simp; done) | rfl, fun X _ => by go_simp⟩) hHeld ?_
  try simp only [Act.put, List.setIfInBounds_toArray, List.set_cons_zero, List.set_cons_succ]
  refine' wpAnyH_take (i := 7) (oi := _) (v := .int .i64 nn) rfl (by kernel_rfl) (by kernel_rfl) (by kernel_rfl) (fun _ _ _ h => h) (Or.inl ⟨by first | (go_simp; done) | rfl, fun X hX => by have cX := hX.2; go_simp⟩) hHeld ?_
  try simp only [Act.put, List.setIfInBounds_toArray, List.set_cons_zero, List.set_cons_succ]
  refine' wpAnyH_take (i := 8) (oi := _) (v := .agg #[.slice ma1 r2.main.length mc1, .slice ba1 r2.bonus.length bc1, .slice xa1 r2.extra.length xc1, .int .i64 r2.factor, .string r2.serial]) rfl (by kernel_rfl) (by kernel_rfl) (by kernel_rfl) (fun _ _ _ h => h) (by refine (yieldsIf_load_mid ?_ 29 (.tmp 9) rfl rb (0) ?_ ([.slice ma1 r2.main.length mc1, .slice ba1 r2.bonus.length bc1, .slice xa1 r2.extra.length xc1, .int .i64 r2.factor, .string r2.serial]) _ (fun X h => Rng.at1 h.1) Tryz.underlying29 rfl (by kernel_rfl)) <;> go_simp) hHeld ?_
  try simp only [Act.put, List.setIfInBounds_toArray, List.set_cons_zero, List.set_cons_succ]
  refine wpAnyH_ready (rs := [1]) (by kernel_rfl) (by simp) ?_
  refine AllReadyH.cons (o := _) rfl (fun K hK => ?_) AllReadyH.nil
  go_simp
  obtain ⟨Y1, hY1⟩ : ∃ Y, Y = w6.drew.alloc (.cells #[] 52) := ⟨_, rfl⟩
  have bY1d : Below w6.drew.heap.size w6.drew Y1 := by rw [hY1]; exact Bel.al (Below.refl _ _) _
  have bY1 : Below w6.heap.size w6 Y1 := by rw [hY1]; exact Bel.al (Below.drewSelf w6) _
  have oY1 : OwnS 14 TickM.cells (fun _ _ => True) Y1 w6.heap.size 52 (.slice (some ⟨w6.heap.size, 0, none⟩) 0 0) [] := by rw [hY1]; exact ⟨World.ownsRow_made w6.drew #[] 0 (Nat.le_refl _) (by decide) rfl, fun x hx => by cases hx⟩
  first | rw [← hY1] | (rw [show (w6.alloc (.cells #[] 52)).drew = Y1 from hY1.symm])
  clear hY1
  refine hK.out _ _ (⟨Rng.keep hHeld.1 bY1d, Bel.cellOf bY1d hHeld.2⟩) (fun hHeld => ?_)
  clear hK K
  try simp only [Act.put, List.setIfInBounds_toArray, List.set_cons_zero, List.set_cons_succ]
  refine wpAnyH_ready (rs := [3]) (by kernel_rfl) (by simp) ?_
  refine AllReadyH.cons (o := _) rfl (fun K hK => ?_) AllReadyH.nil
  rw [if_pos (by first | rfl | (go_simp; done))]
  refine wp_appendS _ _ _ 26 rfl (sz := 14) (V := TickM.cells) (R := fun _ _ => True) tick_len w6.heap.size 52 (.agg #[.string ⟨#[]⟩, .string ⟨#[]⟩, .slice none 0 0, .bool false, .int .i64 0, .int .i64 0, .string ⟨#[]⟩, .int .i64 0, .int .i64 0, .int .i64 0, .int .i64 0, .int .i64 0, .int .i64 0, .bool false]) 152 Tryz.underlying26 infoTk rfl (by decide) _ [] rfl oY1 _ ta rfl ((HTa6.out Y1 bY1).1) (fun _ _ _ _ => trivial) hone_a.out (by have := hta6.out; simp; omega) (by have := hta6.out; simp; omega) (by have := bY1.size; omega) ?_
  intro v7 Y2 o7 g7 hv7
  rw [List.nil_append] at o7
  have bY2 : Below w6.heap.size w6 Y2 := bY1.grown g7 bY1.size (fun q hq => by have h9 : some w6.heap.size = some q := hq; injection h9 with h9; omega)
  obtain ⟨a7, c7, rfl⟩ := OwnS.shape o7
  refine hK.out _ _ (⟨Rng.cons (Row.keep rA6 bY2) (Rng.cons (Row.keep rR6 bY2) (Rng.nil _)), ((Row.keep rD6 bY2).cell? 0).trans rfl⟩) (fun hHeld => ?_)
  clear hK K
  try simp only [Act.put, List.setIfInBounds_toArray, List.set_cons_zero, List.set_cons_succ]
  refine wpAnyH_ready (rs := [5]) (by kernel_rfl) (by simp) ?_
  refine AllReadyH.cons (o := _) rfl (fun K hK => ?_) AllReadyH.nil
  rw [if_pos (by first | rfl | (go_simp; done))]
  refine wp_appendS _ _ _ 26 rfl (sz := 14) (V := TickM.cells) (R := fun _ _ => True) tick_len w6.heap.size 52 (.agg #[.string ⟨#[]⟩, .string ⟨#[]⟩, .slice none 0 0, .bool false, .int .i64 0, .int .i64 0, .string ⟨#[]⟩, .int .i64 0, .int .i64 0, .int .i64 0, .int .i64 0, .int .i64 0, .int .i64 0, .bool false]) 152 Tryz.underlying26 infoTk rfl (by decide) _ ta rfl o7 _ tb rfl ((HTb6.out Y2 bY2).1) (fun _ _ _ _ => trivial) hone_b.out (by have := hta6.out; have := htb6.out; simp; omega) (by have := hta6.out; have := htb6.out; simp; omega) (by have := bY1.size; have := bY2.size; omega) ?_
  intro v8 Y3 o8 g8 hv8
  have o7l := o7.lt
  have bY3 : Below w6.heap.size w6 Y3 := bY2.grown g8 bY2.size (fun q hq => (o7l q hq).1)
  obtain ⟨a8, c8, rfl⟩ := OwnS.shape o8
  obtain ⟨tab, htab⟩ : ∃ l, l = ta ++ tb := ⟨_, rfl⟩
  rw [← htab] at o8
  have rdY : TicketsR Y3 (.slice a8 tab.length c8) tab := ⟨OwnS.rd tick_len o8, fun m hm => by rw [htab] at hm; rcases List.mem_append.1 hm with hm | hm; exact (HTa6.out Y3 bY3).2 m hm; exact (HTb6.out Y3 bY3).2 m hm⟩
  have cZ := cW.out _ tab Y3 (Bel.to hb56.out bY3) rdY (by rw [htab]; have := hta6.out; have := htb6.out; simp; omega)
  rw [show tab.map (·.d) = tsa ++ tsb by rw [htab, List.map_append, htsa.out, htsb.out]] at cZ
  replace cZ := hide cZ
  replace htab := hide htab
  refine hK.out _ _ (⟨Rng.cons (Row.keep rA6 bY3) (Rng.cons (Row.keep rR6 bY3) (Rng.nil _)), ((Row.keep rD6 bY3).cell? 0).trans rfl⟩) (fun hHeld => ?_)
  clear hK K
  try simp only [Act.put, List.setIfInBounds_toArray, List.set_cons_zero, List.set_cons_succ]
  rw [show (ta ++ tb) = tab from htab.out.symm]
  refine wpAnyH_ready (rs := [9]) (by kernel_rfl) (by simp) ?_
  refine AllReadyH.cons (o := _) rfl (fun K hK => ?_) AllReadyH.nil
  go_simp
  refine (cZ.out).mono ?_
  rintro e w8 ⟨vz, rfl, hoZ, hb8⟩
  obtain ⟨PZ, hPZ⟩ : ∃ P, P = winsP g1 (tsa ++ tsb) nn r2 := ⟨_, rfl⟩
  rw [← hPZ] at hoZ ⊢
  obtain ⟨EZ, cz⟩ := PZ
  simp only [] at hoZ ⊢
  obtain ⟨az, ezc, rfl⟩ := OwnS.shape hoZ
  go_wp2_with fail
  refine hK.out _ _ (⟨Rng.keep hHeld.1 hb8, Bel.cellOf hb8 hHeld.2⟩) (fun hHeld => ?_)
  clear hK K
  try simp only [Act.put, List.setIfInBounds_toArray, List.set_cons_zero, List.set_cons_succ]
  refine' wpAnyH_take (i := 10) (oi := _) (v := .tuple #[.slice az EZ.length ezc, .int .i64 cz]) rfl (by kernel_rfl) (by kernel_rfl) (by kernel_rfl) (fun _ _ _ h => h) (Or.inl ⟨by first | (go_simp; done) | rfl, fun X _ => by go_simp⟩) hHeld ?_
  try simp only [Act.put, List.setIfInBounds_toArray, List.set_cons_zero, List.set_cons_succ]
  refine' wpAnyH_take (i := 11) (oi := _) (v := .slice az EZ.length ezc) rfl (by kernel_rfl) (by kernel_rfl) (by kernel_rfl) (fun _ _ _ h => h) (Or.inl ⟨by first | (go_simp; done) | rfl, fun X _ => by go_simp⟩) hHeld ?_
  try simp only [Act.put, List.setIfInBounds_toArray, List.set_cons_zero, List.set_cons_succ]
  refine' wpAnyH_take (i := 12) (oi := _) (v := .int .i64 cz) rfl (by kernel_rfl) (by kernel_rfl) (by kernel_rfl) (fun _ _ _ h => h) (Or.inl ⟨by first | (go_simp; done) | rfl, fun X _ => by go_simp⟩) hHeld ?_
  try simp only [Act.put, List.setIfInBounds_toArray, List.set_cons_zero, List.set_cons_succ]
  refine' wpAnyH_take (i := 13) (oi := _) (v := .slice az EZ.length ezc) rfl (by kernel_rfl) (by kernel_rfl) (by kernel_rfl) (fun _ _ _ h => h) (Or.inl ⟨by first | (go_simp; done) | rfl, fun X _ => by go_simp⟩) hHeld ?_
  try simp only [Act.put, List.setIfInBounds_toArray, List.set_cons_zero, List.set_cons_succ]
  refine' wpAnyH_take (i := 14) (oi := _) (v := .int .i64 cz) rfl (by kernel_rfl) (by kernel_rfl) (by kernel_rfl) (fun _ _ _ h => h) (Or.inl ⟨by first | (go_simp; done) | rfl, fun X _ => by go_simp⟩) hHeld ?_
  try simp only [Act.put, List.setIfInBounds_toArray, List.set_cons_zero, List.set_cons_succ]
  refine wpAnyH_done (by kernel_rfl) ?_ _
  go_simp
  clear hHeld
  have B8 := hide (Bel.to (Bel.to BZ (Bel.to hb56.out bY3)) hb8)
  clear rdY cZ htab bY1 bY2 oY1 o7 o8 g7 g8 hv7 hv8 o7l bY1d rA6 rR6 rD6
  by_cases hca : ca = 0
  rotate_left
  · have hz : cz ≠ 0 := by have h9 := hBad.out (Or.inl hca); rw [← hPZ] at h9; exact h9
    have hcab : (ca != 0) = true := by simpa using hca
    have hE0 : EZ = [] := by have h9 := hZbad.out (by rw [← hPZ]; exact hz); rw [← hPZ] at h9; exact h9
    subst hE0
    have hzb : (cz != 0) = true := by simpa using hz
    rw [List.length_nil]
    replace hz := hide hz
    clear hPZ hoZ hoB
    go_wp2_with fail
    refine (works34_any _).mono ?_
    rintro e w99 ⟨rfl, hb99⟩
    go_wp2
    go_ret
    exact ⟨rfl, Bel.to (B8.out) hb99⟩
  by_cases hcb : cb = 0
  rotate_left
  · have hz : cz ≠ 0 := by have h9 := hBad.out (Or.inr hcb); rw [← hPZ] at h9; exact h9
    have hcbb : (cb != 0) = true := by simpa using hcb
    have hcab : (ca != 0) = false := by simpa using hca
    have hE0 : EZ = [] := by have h9 := hZbad.out (by rw [← hPZ]; exact hz); rw [← hPZ] at h9; exact h9
    subst hE0
    have hzb : (cz != 0) = true := by simpa using hz
    rw [List.length_nil]
    replace hz := hide hz
    clear hPZ hoZ hoB
    go_wp2_with fail
    refine (works34_any _).mono ?_
    rintro e w99 ⟨rfl, hb99⟩
    go_wp2
    go_ret
    exact ⟨rfl, Bel.to (B8.out) hb99⟩
  subst hca hcb
  have hAll := hBoth.out rfl rfl
  rw [← hPZ] at hAll
  injection hAll with hEZ hcz
  subst hcz
  have hlA := hLenA.out rfl
  have hlB := hLenB.out rfl
  have hna6 : na1 ≤ 6 := by rw [hna1.out]; exact hta6.out
  have hnb6 : nb1 ≤ 6 := by rw [hnb1.out]; exact htb6.out
  have hna6i : (na1 : Int) ≤ 6 := by omega
  have hA8 : Hid (EA.length ≤ 6144) := by show EA.length ≤ 6144; omega
  have hB8l : Hid (EB.length ≤ 6144) := by show EB.length ≤ 6144; omega
  have b68 : Below w6.heap.size w6 w8 := Bel.to bY3 hb8
  have oB8 : OwnWin w8 w5.heap.size (.slice eb0 EB.length eb1) EB := OwnS.keep hoB b68
  have hBlt := hide (OwnS.lt hoB)
  have oA8 : OwnWin w8 Z.heap.size (.slice ea0 EA.length ea1) EA := OwnS.keep (OwnS.keep hoA9.out hb6h.out) b68
  have hZlt := hide (OwnS.lt hoZ)
  have hsY : Hid (w6.heap.size ≤ Y3.heap.size) := bY3.size
  obtain ⟨m0, hm0⟩ : ∃ m, m = EB.length := ⟨_, rfl⟩
  rw [← hm0] at oB8 hBlt ⊢
  have hm9 : (m0 : Int) ≤ 6144 := by have := hB8l.out; omega
  replace hEZ := hide hEZ
  replace hm0 := hide hm0
  clear hlA hlB hoB b68 hPZ bY3 hb8 hna6 hnb6
  have hnb6 : Hid (nb1 ≤ 6) := by show nb1 ≤ 6; rw [hnb1.out]; exact htb6.out
  go_wp2
  go_loopg [16, 77] m0 (fun gh _ t77 wr => ∃ (i : Nat) (L : List WinD), gh = m0 - i ∧ i ≤ m0 ∧ t77 = .int .i64 (i : Int) ∧ Hid (OwnWin wr w5.heap.size (.slice eb0 m0 eb1) L) ∧ Hid (∀ k, L[k]? = if k < i then (EB.map (shiftW na1))[k]? else EB[k]?) ∧ Hid (L.length = m0) ∧ Hid (w8.grownBy wr (Value.slice eb0 m0 eb1).ownBlock))
  case atStart => exact ⟨0, EB, rfl, Nat.zero_le _, rfl, oB8, (fun k => by rw [if_neg (by omega)]), hm0.out.symm, Gb.refl _ _⟩
  case round =>
    clear oB8
    obtain ⟨i, L, hgh, hi, rfl, hown, hLk, hLl, hG⟩ := hrel
    replace hgh := hide hgh
    by_cases hlt : i < m0
    · have hlt2 := hide hlt
      have hil : i < L.length := by rw [hLl.out]; exact hlt
      obtain ⟨ga, rfl⟩ : ∃ ga, eb0 = some (⟨ga, 0, none⟩ : Addr) := by
        rcases hown.out.1.2 with ⟨e, -⟩ | ⟨ga, cap, cur, e, -⟩
        · injection e with _ e _; omega
        · injection e with e _ _; exact ⟨ga, e⟩
      obtain ⟨x, hx⟩ : ∃ x, x = L[i] := ⟨_, rfl⟩
      have hxi : L[i]? = some x := by rw [hx]; exact List.getElem?_eq_getElem hil
      have hBi : EB[i]? = some x := by have h9 := hLk.out i; rw [if_neg (by omega), hxi] at h9; exact h9.symm
      have hSi : (EB.map (shiftW na1))[i]? = some (shiftW na1 x) := by rw [List.getElem?_map, hBi]; rfl
      have hxm : x ∈ EB := List.mem_of_getElem? hBi
      have hx0 := hTk0.out x hxm
      have hx1 := hTk1.out x hxm
      obtain ⟨b0, off0, e0, -, hcell⟩ := (OwnS.rd win_len hown.out).at_ (i := i) hil
      injection e0 with e0
      injection e0 with e01 e02
      subst e01 e02
      have c0 : wr.cell? ⟨ga, i * 3, none⟩ = some (.int .i64 x.ticket) := by have := hcell i _ hxi 0 _ rfl; rwa [Nat.zero_add, Nat.add_zero] at this
      have f0 : wr.frozen? ⟨ga, i * 3, none⟩ = false := OwnS.frozen hown.out _
      obtain ⟨hown2, hg2⟩ := OwnS.put win_len hown.out i 0 hil (by omega) (shiftW na1 x) (.int .i64 (x.ticket + na1)) (by rw [← hx]; rfl) (fun _ _ => trivial)
      rw [Nat.add_zero] at hown2 hg2
      obtain ⟨L2, hL2⟩ : ∃ L2, L2 = L.set i (shiftW na1 x) := ⟨_, rfl⟩
      rw [← hL2] at hown2
      have hLl2 : Hid (L2.length = m0) := by show L2.length = m0; rw [hL2, List.length_set]; exact hLl.out
      have hLk2 : Hid (∀ k, L2[k]? = if k < i + 1 then (EB.map (shiftW na1))[k]? else EB[k]?) := by
        intro k
        rw [hL2]
        by_cases hk : i = k
        · subst hk
          rw [List.getElem?_set_self hil, if_pos (by omega), hSi]
        · rw [List.getElem?_set_ne hk, hLk.out k]
          by_cases hk2 : k < i
          · rw [if_pos hk2, if_pos (by omega)]
          · rw [if_neg hk2, if_neg (by omega)]
      have hG2 := hide (World.grownBy.trans hG.out hg2)
      obtain ⟨x1, hx1e⟩ : ∃ q, q = x.ticket := ⟨_, rfl⟩
      rw [← hx1e] at c0 hown2 hG2 hx0 hx1
      have hwrp : IntKind.i64.wrap (x1 + (na1 : Int)) = x1 + (na1 : Int) := IntWalk.i64_in _ (by have : nb1 ≤ 6 := hnb6.out; omega)
      replace hown2 := hide hown2
      have i1 : (0 : Int) ≤ (i : Int) := by omega
      have i2 : (i : Int) < (m0 : Int) := by omega
      clear hcell hx hxi hBi hSi hxm hL2 hg2 hG hLk hLl hx1e hil hown
      go_wp2
      go_roundg (m0 - (i + 1))
      case measure => have := hgh.out; have := hlt2.out; omega
      case rel => exact ⟨i + 1, L2, rfl, by have := hlt2.out; omega, by go_num, hown2, hLk2, hLl2, hG2⟩
    · have him : i = m0 := by omega
      have hLe : L = EB.map (shiftW na1) := by
        refine List.ext_getElem? fun k => ?_
        rw [hLk.out k]
        by_cases hk : k < i
        · rw [if_pos hk]
        · rw [if_neg hk, List.getElem?_eq_none (by have := hm0.out; omega), List.getElem?_eq_none (by rw [List.length_map]; have := hm0.out; omega)]
      have hneA : (Value.slice ea0 EA.length ea1).ownBlock = none ∨ (Value.slice ea0 EA.length ea1).ownBlock ≠ (Value.slice eb0 m0 eb1).ownBlock := by
        cases hv : (Value.slice ea0 EA.length ea1).ownBlock with
        | none => exact .inl rfl
        | some q => exact .inr (fun e => by have h8 := (hoAlt.out q hv).2; have h9 := (hBlt.out q e.symm).1; omega)
      have hneZ : (Value.slice az EZ.length ezc).ownBlock = none ∨ (Value.slice az EZ.length ezc).ownBlock ≠ (Value.slice eb0 m0 eb1).ownBlock := by
        cases hv : (Value.slice az EZ.length ezc).ownBlock with
        | none => exact .inl rfl
        | some q => exact .inr (fun e => by have h8 := (hZlt.out q hv).1; have h9 := (hBlt.out q e.symm).2; have := hsY.out; omega)
      have oA : OwnWin wr Z.heap.size (.slice ea0 EA.length ea1) EA := ⟨World.ownsRow.kept oA8.1 hG.out hneA, fun _ _ _ _ => trivial⟩
      have oZ : OwnWin wr Y3.heap.size (.slice az EZ.length ezc) EZ := ⟨World.ownsRow.kept hoZ.1 hG.out hneZ, fun _ _ _ _ => trivial⟩
      have hL9 : EZ = EA ++ L := by rw [hEZ.out, hLe]
      have hLl9 : L.length = m0 := hLl.out
      have BW : Below w.heap.size w wr := B8.out.grown hG.out B8.out.size (fun q hq => by have h9 := (hBlt.out q hq).1; have h8 := BZ.size; have h7 := hb5s.out; omega)
      have rA9 := hide (fun X (hX : Below wr.heap.size wr X) => RdS.below (OwnWin.rd oA) hX)
      have rL9 := hide (fun X (hX : Below wr.heap.size wr X) => RdS.below (OwnWin.rd hown.out) hX)
      have rZ9 := hide (fun X (hX : Below wr.heap.size wr X) => RdS.below (OwnWin.rd oZ) hX)
      have hwone : Hid (∀ y ∈ EA, ∀ u ∈ winCells y, u.oneCell' = true) := fun y _ => winOne y
      have hwone2 : Hid (∀ y ∈ L, ∀ u ∈ winCells y, u.oneCell' = true) := fun y _ => winOne y
      obtain ⟨mz, hmz⟩ : ∃ m, m = EZ.length := ⟨_, rfl⟩
      rw [← hmz] at rZ9 ⊢
      have hmA6 : Hid (EA.length ≤ 6144) := hA8
      have hLl6 : Hid (L.length ≤ 6144) := by show L.length ≤ 6144; rw [hLl9]; omega
      have i2 : ¬ (i : Int) < (m0 : Int) := by omega
      replace him := hide him
      replace hLe := hide hLe
      replace hL9 := hide hL9
      replace hLl9 := hide hLl9
      replace hmz := hide hmz
      replace BW := hide BW
      have hwrs : Hid (wr.heap.size ≤ wr.heap.size) := Nat.le_refl _
      clear hown hLk hLl hG hneA hneZ oA oZ oA8 hoZ
      go_wp2_with (first | (with_reducible refine wpList_appendS_if ?_ _ _ 34 rfl (sz := 3) (V := winCells) (R := fun _ _ => True) win_len wr.heap.size 46 (.agg #[.int .i64 0, .int .i64 0, .int .i64 0]) 24 Tryz.underlying34 infoWin rfl (by decide) (.slice (some ⟨wr.heap.size, 0, none⟩) 0 0) [] ?_ ?_ (.slice ea0 EA.length ea1) EA ?_ ?_ ?_ ?_ ?_ ?_ ?_ ?_) | fail)
      · exact ⟨World.ownsRow_made wr #[] 0 (Nat.le_refl _) (by decide) rfl, fun x hx => by cases hx⟩
      case refine_5 => exact rA9.out _ (Bel.al (Below.refl _ _) _)
      case refine_6 => intro _ _ _ _; trivial
      case refine_7 => exact hwone.out
      case refine_8 => have := hmA6.out; omega
      case refine_9 => have := hmA6.out; omega
      intro v9 w9 o9 g9 hv9
      have b9 : Below wr.heap.size wr w9 := (Bel.al (Below.refl _ _) _).grown g9 (by simp) (fun q hq => by have h9 : some wr.heap.size = some q := hq; injection h9 with h9; omega)
      obtain ⟨a9, c9, rfl⟩ := OwnS.shape o9
      have o9h := hide o9
      have o9lt := hide (OwnS.lt o9)
      have b9h := hide b9
      clear o9 g9 hv9 b9
      go_wp2_with (first | (with_reducible refine wpList_appendS_if ?_ _ _ 34 rfl (sz := 3) (V := winCells) (R := fun _ _ => True) win_len wr.heap.size 46 (.agg #[.int .i64 0, .int .i64 0, .int .i64 0]) 24 Tryz.underlying34 infoWin rfl (by decide) (.slice a9 EA.length c9) EA ?_ ?_ (.slice eb0 m0 eb1) L ?_ ?_ ?_ ?_ ?_ ?_ ?_ ?_) | fail)
      all_goals try exact o9h.out
      case refine_2 => go_simp
      try case refine_4 => go_simp
      case refine_5 => exact rL9.out _ b9h.out
      case refine_6 => intro _ _ _ _; trivial
      case refine_7 => exact hwone2.out
      case refine_8 => have := hmA6.out; have := hLl6.out; omega
      case refine_9 => have := hmA6.out; have := hLl6.out; omega
      case refine_10 => exact b9h.out.size
      intro v10 w10 o10 g10 hv10
      have b10 : Below wr.heap.size wr w10 := b9h.out.grown g10 b9h.out.size (fun q hq => (o9lt.out q hq).1)
      obtain ⟨EL, hEL⟩ : ∃ l, l = EA ++ L := ⟨_, rfl⟩
      rw [← hEL] at o10
      obtain ⟨a10, c10, rfl⟩ := OwnS.shape o10
      have cS := samewins_any _ _ _ _ w10 (rZ9.out w10 b10) (OwnWin.rd o10)
      rw [show decide (EZ = EL) = true from decide_eq_true (by rw [hEL]; exact hL9.out)] at cS
      obtain ⟨nel, hnel⟩ : ∃ n, n = EL.length := ⟨_, rfl⟩
      rw [← hnel] at cS ⊢
      replace hnel := hide hnel
      replace hEL := hide hEL
      replace cS := hide cS
      have b10h := hide b10
      clear o10 g10 hv10 b10
      go_wp2_with fail
      refine cS.out.mono ?_
      rintro e w98 ⟨rfl, hb98⟩
      go_wp2_with fail
      refine (works34_any _).mono ?_
      rintro e w99 ⟨rfl, hb99⟩
      go_wp2
      go_ret
      exact ⟨rfl, Bel.to (Bel.to (Bel.to BW.out b10h.out) hb98) hb99⟩
end Go.Proofs.YtfggjlekcdpmmaaGreat
end

section
/- WinnerFunction: for every input the Go function lotterylaw34.WinnerFunction returns true, and each argument reads afterwards as before. Conditions: none. -/
namespace Go.Proofs.YtfggjlekcdpmmaaGreat.winnerFunction
open Go.ChangeShapes Go.WideShapes Go.ChangeAt Go.RowKit
set_option linter.unusedVariables false

theorem own : ownKnob Tryz.prog.godebug = none := by kernel_rfl
theorem laidOut : laidOutB Tryz.prog = true := by kernel_rfl

set_option maxRecDepth 100000 in
theorem lifted (os : Os) (started : os.Started) (H : Type) (enc : TypeId × Value → H) :
    ReturnsInHanded {} Tryz.checked os 5 .any (Rows.winnerFunctionSpec.pre6 enc Tryz.prog Tryz.f5 Rows.winnerFunctionRow.domain false) (Rows.winnerFunctionSpec.post enc Tryz.prog Tryz.f5 false true false false) := by
  refine returnsInHanded_of_change (C := Tryz.checked) own started (by kernel_rfl) Tryz.func5
    (ChangeSpec.witness6 (enc := enc) (C := Tryz.checked) false ⟨#[], #[.agg #[.string ⟨#[]⟩, .int .i64 0, .int .i64 0, .int .i64 0, .int .i64 0, .int .i64 0, .int .i64 0, .int .i64 0, .int .i64 0, .int .i64 0, .int .i64 0, .int .i64 0, .int .i64 0, .int .i64 0, .int .i64 0, .int .i64 0, .int .i64 0, .int .i64 0, .int .i64 0, .int .i64 0, .slice none 0 0, .slice none 0 0], .agg #[.slice none 0 0, .slice none 0 0], .agg #[.int .i64 0, .slice none 0 0, .slice none 0 0, .slice none 0 0, .int .i64 0, .string ⟨#[]⟩]], []⟩ 8 (by kernel_rfl) (by kernel_rfl) (by kernel_rfl) (by kernel_rfl)) ?_
  intro W base args ds gs before hval0 hW hcnd _
  have hval : ∀ (j : Nat) t v, Tryz.f5.params[j]? = some t → args[j]? = some v → Value.okWide Tryz.prog W .any base t v := hval0
  have hW' := hW
  obtain ⟨p, q, hA0, hV, rfl, hfz, hnd⟩ := hW
  have hA : DataW.TrodAll enc Tryz.prog W 0 (fun _ => true) true Tryz.f5.params.toList args.toList ds p := hA0
  rw [Tryz.params5] at hA hval
  obtain ⟨v0, vs0, d0, ds0, p0, q0, hargs, rfl, rfl, h0, r0⟩ := trodAll_cons hA
  obtain ⟨v1, vs1, d1, ds1, p1, q1, rfl, rfl, rfl, h1, r1⟩ := trodAll_cons r0
  obtain ⟨v2, vs2, d2, ds2, p2, q2, rfl, rfl, rfl, h2, r2⟩ := trodAll_cons r1
  obtain ⟨rfl, rfl, rfl⟩ := trodAll_nil r2
  obtain rfl : args = #[v0, v1, v2] := by cases args; simp_all
  obtain ⟨rfl, rfl⟩ := trodVars_none hV
  obtain ⟨cs0, rfl, hsz0⟩ := okWide_struct Tryz.underlying25 (hval 0 25 v0 rfl rfl)
  have k0 := h0
  have lt0 : ∀ x ∈ p0, x.block < W.heap.size := by obtain ⟨m, hm⟩ := k0; exact DataW.trod_lt m _ _ _ hm
  obtain ⟨g0, av0, tv0, ms0, eg0, rg0⟩ := game_trod h0
  rw [eg0] at k0 hW' ⊢
  obtain ⟨cs1, rfl, hsz1⟩ := okWide_array Tryz.underlying44 (hval 1 44 v1 rfl rfl)
  have k1 := h1
  have lt1 : ∀ x ∈ p1, x.block < W.heap.size := by obtain ⟨m, hm⟩ := k1; exact DataW.trod_lt m _ _ _ hm
  obtain ⟨va1, vb1, ma1, mb1, eg1, ra1, rb1⟩ := two_open h1
  rw [eg1] at k1 hW' ⊢
  obtain ⟨cs2, rfl, hsz2⟩ := okWide_struct Tryz.underlying31 (hval 2 31 v2 rfl rfl)
  have k2 := h2
  have lt2 : ∀ x ∈ p2, x.block < W.heap.size := by obtain ⟨m, hm⟩ := k2; exact DataW.trod_lt m _ _ _ hm
  obtain ⟨nn2, dm2, db2, dx2, dr2, eg2, rg2, in2⟩ := draw_open h2
  rw [eg2] at k2 hW' ⊢
  clear hA0 hval0
  refine (function34_walk g0 av0 tv0 ms0 va1 vb1 ma1 mb1 nn2 dm2 db2 dx2 dr2 W rg0 ra1 rb1 rg2 in2).mono fun e W' ⟨he, bel⟩ => ?_
  subst he
  exact ⟨_, rfl, _, _, _, [], _, [], hW', trodAll_mk1 (shut_bool Tryz.underlying4 _), (trodAll_cons_mk (Below.trod laidOut (by kernel_rfl) (of_decide_eq_true (by kernel_rfl)) k0 bel lt0) (trodAll_cons_mk (Below.trod laidOut (by kernel_rfl) (of_decide_eq_true (by kernel_rfl)) k1 bel lt1) (trodAll_cons_mk (Below.trod laidOut (by kernel_rfl) (of_decide_eq_true (by kernel_rfl)) k2 bel lt2) trodAll_mk0))), rfl, bel.frame _, fun h => by cases h⟩

theorem over : Rows.winnerFunctionRow.holds Tryz.pinned (OpenSpec.ofChange Rows.winnerFunctionSpec) :=
  OpenClaim.holds_of_wide 5 Tryz.f5 rfl rfl rfl rfl rfl rfl rfl ⟨rfl, rfl, rfl, rfl, rfl⟩ rfl rfl rfl rfl rfl (by kernel_rfl) Tryz.func5 (by kernel_rfl)
    (of_decide_eq_true (by kernel_rfl)) (by unfold Func.isWrapper; first | (rw [if_pos (by decide +kernel)]; kernel_rfl) | (rw [if_neg (by decide +kernel)]; exact ⟨rfl, rfl⟩))
    (fun os started H enc _ => lifted os started H enc)

theorem proved : Rows.WinnerFunctionSaid := over
#print axioms proved
end Go.Proofs.YtfggjlekcdpmmaaGreat.winnerFunction
end

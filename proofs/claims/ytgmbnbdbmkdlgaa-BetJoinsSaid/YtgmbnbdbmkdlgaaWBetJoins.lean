/- BetJoins: for every input the Go function lotterylaw16.BetJoins returns true, and each argument reads afterwards as before. Conditions: none. -/
import Derived.Test.YtgmbnbdbmkdlgaaRows
import Derived.WalkKit
import Derived.ProofKit
import Derived.OpenShut
import Derived.ChangeOld
import Derived.Below
import Derived.Test.YtgmbnbdbmkdlgaaGBetA
import Derived.Test.YtgmbnbdbmkdlgaaGBetB
import Derived.Test.YtgmbnbdbmkdlgaaGTrod
import Derived.Test.YtgmbnbdbmkdlgaaGTrodB

section
/- A bet's lines one by one; a bet with a line twice; append of lines that lie elsewhere. Condition: sizes. -/
open Go.RowKit
set_option linter.unusedVariables false
set_option linter.unusedSimpArgs false
namespace Go.Proofs.Ytgmbnbdbmkdlgaa

def oneB (B : BetD) (l : LineD) : BetD := ⟨[l], B.sys, B.draws, B.addons⟩
def twiceB (B : BetD) (l : LineD) : BetD := ⟨B.lines ++ [l], B.sys, B.draws, B.addons⟩

theorem scan_one {g : GameD} {sys : Bool} {l : LineD} (h : (sizeB g sys l).2 = 0) : scanB g sys [l] [] 0 = ((sizeB g sys l).1, 0) := by
  rw [scanB, if_neg (by simpa using h), if_neg (by simp), scanB, Int.zero_add]

theorem flat_mem_le {α β : Type} (f : α → List β) {l : List α} {x : α} (h : x ∈ l) : (f x).length ≤ (l.flatMap f).length := by
  induction l with
  | nil => cases h
  | cons y r ih =>
    rw [List.flatMap_cons, List.length_append]
    rcases List.mem_cons.1 h with e | h
    · subst e; omega
    · have := ih h; omega

theorem tail_ok {g : GameD} {B : BetD} (h : (betP g B).2 = 0) {R : Int × Int} (h2 : R.2 = 0) (h3 : R.1 ≤ 1024) : tailB g B R = (R.1, 0) := by
  obtain ⟨p1, p2, p3, p4, p5, p6, p7, p8, p9, p10⟩ := betP_ok h
  unfold tailB
  rw [if_neg (by simpa using h2), if_neg (by omega), if_neg (by omega), if_neg (by omega)]

theorem betP_one {g : GameD} {B : BetD} (h : (betP g B).2 = 0) {l : LineD} (hl : l ∈ B.lines) : (betP g (oneB B l)).2 = 0 ∧ linesB g (oneB B l) = lineB g B.sys l := by
  obtain ⟨p1, p2, p3, p4, p5, p6, p7, p8, p9, p10⟩ := betP_ok h
  have hs := p10 l hl
  refine ⟨?_, ?_⟩
  · rw [betP_tail (B := oneB B l) p1 (by show 1 ≤ [l].length; simp) (by show [l].length ≤ 16; simp)]
    show (tailB g (oneB B l) (scanB g B.sys [l] [] 0)).2 = 0
    rw [scan_one hs]
    have hle := flat_mem_le (lineB g B.sys) hl
    have h1 := (size_lines hs).1
    have h5 : (B.lines.flatMap (lineB g B.sys)).length ≤ 1024 := p5
    show (tailB g B ((sizeB g B.sys l).1, 0)).2 = 0
    rw [tail_ok h rfl (by show (sizeB g B.sys l).1 ≤ 1024; omega)]
  · show [l].flatMap (lineB g B.sys) = _
    simp

theorem scan_twice {g : GameD} {sys : Bool} {ls E : List LineD} {t : Int} {l0 : LineD} (h : (scanB g sys ls E t).2 = 0) (hs : (sizeB g sys l0).2 = 0) (hm : formG g l0 ∈ E ∨ l0 ∈ ls) : scanB g sys (ls ++ [l0]) E t = (0, 6) := by
  induction ls generalizing E t with
  | nil =>
    rcases hm with hm | hm
    · rw [List.nil_append, scanB, if_neg (by simpa using hs), if_pos hm]
    · cases hm
  | cons l r ih =>
    rw [List.cons_append, scanB]
    rw [scanB] at h
    by_cases h1 : (sizeB g sys l).2 ≠ 0
    · rw [if_pos h1] at h; exact absurd h h1
    · rw [if_neg h1] at h ⊢
      by_cases h2 : formG g l ∈ E
      · rw [if_pos h2] at h; exact absurd h (by simp)
      · rw [if_neg h2] at h ⊢
        refine ih h ?_
        rcases hm with hm | hm
        · exact .inl (List.mem_append_left _ hm)
        · rcases List.mem_cons.1 hm with e | hm
          · subst e; exact .inl (List.mem_append_right _ (List.mem_singleton.2 rfl))
          · exact .inr hm

theorem betP_twice {g : GameD} {B : BetD} (h : (betP g B).2 = 0) (hn : B.lines.length ≤ 12) {l : LineD} (hl : l ∈ B.lines) : (betP g (twiceB B l)).2 = 6 := by
  obtain ⟨p1, p2, p3, p4, p5, p6, p7, p8, p9, p10⟩ := betP_ok h
  have hsc : (scanB g B.sys B.lines [] 0).2 = 0 := by
    rw [betP_tail p1 p2 p3] at h
    cases hx : decide ((scanB g B.sys B.lines [] 0).2 = 0) with
    | true => exact of_decide_eq_true hx
    | false =>
      have h1 := of_decide_eq_false hx
      unfold tailB at h
      rw [if_pos h1] at h
      exact absurd h h1
  have hlen : (twiceB B l).lines.length = B.lines.length + 1 := by show (B.lines ++ [l]).length = _; simp
  rw [betP_tail (B := twiceB B l) p1 (by omega) (by omega)]
  show (tailB g (twiceB B l) (scanB g B.sys (B.lines ++ [l]) [] 0)).2 = 6
  rw [scan_twice hsc (p10 l hl) (.inr hl)]
  unfold tailB
  rw [if_pos (by simp)]

theorem flat_inv (vs : List (Value × Value)) (j : Nat) (x : Value) (h : (vs.flatMap LnV)[j]? = some x) : ∃ (i r : Nat) (p : Value × Value), j = i * 2 + r ∧ vs[i]? = some p ∧ (LnV p)[r]? = some x := by
  induction vs generalizing j with
  | nil => simp at h
  | cons q r ih =>
    rw [List.flatMap_cons] at h
    by_cases hj : j < 2
    · rw [List.getElem?_append_left (by show j < 2; exact hj)] at h
      exact ⟨0, j, q, by omega, rfl, h⟩
    · rw [List.getElem?_append_right (by show 2 ≤ j; omega)] at h
      obtain ⟨i, t, p, h1, h2, h3⟩ := ih _ h
      have h1' : j - 2 = i * 2 + t := h1
      exact ⟨i + 1, t, p, by omega, h2, h3⟩

section
variable {P : Program} (w : World)
/-- append of lines that lie elsewhere, onto a row of the call's own. -/
theorem run_append_old (W0 : World) (t ty : TypeId) (z : Value) (bytes : Nat) (ht : P.underlying t = some (.slice 28)) (hi : (P.info? 28).map (fun i => (i.zero, i.size, i.bytes)) = some (some z, 2, bytes)) (hzs : z.cells.size = 2)
    (v : Value) (ls : List LineD) (hown : OwnLn w 0 v ls) (u : Value) (ls2 : List LineD) (hsrc : LinesR W0 u ls2) (hbel : Below W0.heap.size W0 w) (hne : ls2 ≠ []) (hv : ∀ k, v.ownBlock = some k → W0.heap.size ≤ k)
    (h63 : ls.length + ls2.length ≤ 9223372036854775807) (hbytes : (ls.length + ls2.length) * bytes ≤ 140737488355328) :
    ∃ v' w', (Builtin.append_ #[t, t] ty #[v, u]).run P w = .ok v' w' ∧ OwnLn w' 0 v' (ls ++ ls2) ∧ w.grownBy w' v.ownBlock ∧ (v'.ownBlock = v.ownBlock ∨ v'.ownBlock = some w.heap.size) := by
  obtain ⟨i, hi, hz, hs, hby⟩ := info_parts hi
  obtain ⟨vs, h1, h2, h3⟩ := hown
  obtain ⟨us, k1, k2, k3⟩ := hsrc
  obtain ⟨ao, cap, hu, hlc, hcm, hcells⟩ := k1
  have hus : 0 < us.length := by rw [k2]; exact List.length_pos_iff.2 hne
  obtain ⟨b, off, rfl, hbl, hc⟩ := hcells hus
  subst hu
  have hall : ∀ (i : Nat) p, us[i]? = some p → p.1.oneCell' = true ∧ p.2.oneCell' = true := by
    intro i p hp
    have hil : i < ls2.length := by rw [← k2]; exact (List.getElem?_eq_some_iff.1 hp).1
    obtain ⟨⟨a1, c1, e1, _⟩, ⟨a2, c2, e2, _⟩⟩ := k3 i p _ hp (List.getElem?_eq_getElem hil)
    rw [e1, e2]
    exact ⟨rfl, rfl⟩
  obtain ⟨v', w', e1, e2, e3, _, e5⟩ := run_append_own_at (P := P) w 0 t ty _ i z 2 bytes ht hi hz hs hby hzs (by omega) v vs.length (vs.flatMap LnV) h1 ⟨b, off, none⟩ us.length cap (us.flatMap LnV) (by rw [flatMap_LnV_len])
    (by
      intro j x hj
      obtain ⟨i, r, p, e, hp, hx⟩ := flat_inv us j x hj
      have h9 := hc i p hp r x hx
      have h10 : w.cell? ⟨b, off + i * 2 + r, none⟩ = some x := (hbel.cell hbl).trans h9
      subst e
      rw [show off + i * 2 + r = off + (i * 2 + r) by omega] at h10
      unfold Addr.add
      split
      · next h0 => rw [h0] at h10; exact h10
      · exact h10)
    (by
      intro x hx
      obtain ⟨p, hp, hxp⟩ := List.mem_flatMap.1 hx
      obtain ⟨i, hil, rfl⟩ := List.getElem_of_mem hp
      obtain ⟨o1, o2⟩ := hall i _ (List.getElem?_eq_getElem hil)
      simp [LnV] at hxp
      rcases hxp with rfl | rfl <;> assumption)
    (by unfold maxLen; omega) (by rw [h2, k2]; exact hbytes) (Nat.zero_le _)
  have hap : ∀ {u : Value} {l : List Int}, Rd I64 w u l → Ap u v l → Rd I64 w' u l ∧ Ap u v' l := by
    intro u l hr ha
    refine ⟨hr.grownA e3 ha, ?_⟩
    rcases e5 with e5 | e5
    · unfold Ap; rw [e5]; exact ha
    · exact ap_of (k := 0) hr e5
  have hold : ∀ {u : Value} {l : List Int}, Rd I64 W0 u l → Rd I64 w u l ∧ Fr 0 u l ∧ Ap u v l := by
    intro u l hr
    refine ⟨hr.below hbel, ?_, ?_⟩
    · by_cases hl : l = []
      · exact .inl hl
      · obtain ⟨k, hk, -⟩ := rd_lt hr hl
        exact .inr ⟨k, hk, Nat.zero_le _⟩
    · by_cases hl : l = []
      · exact .inl hl
      · obtain ⟨k, hk, hlt⟩ := rd_lt hr hl
        exact .inr (fun e => by rw [hk] at e; have := hv k e.symm; omega)
  refine ⟨v', w', e1, ⟨vs ++ us, ?_, by simp [h2, k2], fun i p x hp hx => ?_⟩, e3, e5⟩
  · rw [List.flatMap_append]
    simpa using e2
  · by_cases hiv : i < vs.length
    · rw [List.getElem?_append_left hiv] at hp
      rw [List.getElem?_append_left (by omega)] at hx
      obtain ⟨⟨a1, a2⟩, b1, b2, c1, c2⟩ := h3 i p x hp hx
      obtain ⟨q1, q2⟩ := hap a1 c1
      obtain ⟨q3, q4⟩ := hap a2 c2
      exact ⟨⟨q1, q3⟩, b1, b2, q2, q4⟩
    · rw [List.getElem?_append_right (by omega)] at hp hx
      rw [show i - ls.length = i - vs.length by omega] at hx
      obtain ⟨a1, a2⟩ := k3 _ p x hp hx
      obtain ⟨r1, f1, s1⟩ := hold a1
      obtain ⟨r2, f2, s2⟩ := hold a2
      obtain ⟨q1, q2⟩ := hap r1 s1
      obtain ⟨q3, q4⟩ := hap r2 s2
      exact ⟨⟨q1, q3⟩, f1, f2, q2, q4⟩

theorem wpList_append_old {ops : Array Oper} {rest : List Oper} {o : Oper} {A : Act} {Q : Exit → Act → World → Prop} (hgd : o.guard = none) (s x : Operand) (t : TypeId)
    (ho : o.op = .call { callee := .builtin .append, args := #[s, x], argTypes := #[t, t] })
    (W0 : World) (z : Value) (bytes : Nat) (ht : P.underlying t = some (.slice 28)) (hi : (P.info? 28).map (fun i => (i.zero, i.size, i.bytes)) = some (some z, 2, bytes)) (hzs : z.cells.size = 2)
    (v : Value) (ls : List LineD) (hs : A.eval s = v) (hown : OwnLn w 0 v ls) (u : Value) (ls2 : List LineD) (hx : A.eval x = u) (hsrc : LinesR W0 u ls2) (hbel : Below W0.heap.size W0 w) (hne : ls2 ≠ []) (hv : ∀ k, v.ownBlock = some k → W0.heap.size ≤ k)
    (h63 : ls.length + ls2.length ≤ 9223372036854775807) (hbytes : (ls.length + ls2.length) * bytes ≤ 140737488355328)
    (hK : ∀ v' w', OwnLn w' 0 v' (ls ++ ls2) → w.grownBy w' v.ownBlock → (v'.ownBlock = v.ownBlock ∨ v'.ownBlock = some w.heap.size) → wpList P ops Q rest (A.put o.dst v') w') : wpList P ops Q (o :: rest) A w := by
  refine wpList_plain hgd fun K hK' => ?_
  obtain ⟨v', w', hr, h2, h3, h4⟩ := run_append_old (P := P) w W0 t o.type z bytes ht hi hzs v ls hown u ls2 hsrc hbel hne hv h63 hbytes
  unfold Oper.wp execOp
  simp only [ho, resolve, invoke, builtin, Sem.run_bind, Sem.run_pure, Result.andThen_ok, List.map_toArray, List.map_cons, List.map_nil, hs, hx, hr]
  exact hK' _ _ (hK v' w' h2 h3 h4)
end

/-- An empty row of the call's own. -/
theorem OwnLn.empty {w : World} {g : Nat} (h : Row w g 28 []) : OwnLn w 0 (.slice (some ⟨g, 0, none⟩) 0 0) [] :=
  ⟨[], ⟨by simp, .inr ⟨g, 0, #[], rfl, Nat.zero_le _, h, Nat.le_refl _, by decide, rfl, rfl⟩⟩, rfl, fun i p x hp => by simp at hp⟩
end Go.Proofs.Ytgmbnbdbmkdlgaa
end

section
/- The walk of the statement BetPrices: it returns true, whatever the game and the bet. -/
open Go.RowKit
set_option linter.unusedVariables false
set_option linter.unusedSimpArgs false
namespace Go.Proofs.Ytgmbnbdbmkdlgaa

theorem lineB_pos {g : GameD} {sys : Bool} {l : LineD} (h : (sizeB g sys l).2 = 0) : 1 ≤ (lineB g sys l).length := by
  cases sys with
  | false => exact Nat.le_refl 1
  | true =>
    have h2 := exp_ne (size_sys h)
    have h3 : lineB g true l = expL (sortI l.1) (sortI l.2) g.main.toNat := rfl
    rw [h3]
    exact List.length_pos_iff.2 h2
theorem flat_ge {g : GameD} {sys : Bool} {ls : List LineD} (h : ∀ l ∈ ls, (sizeB g sys l).2 = 0) : ls.length ≤ (ls.flatMap (lineB g sys)).length := by
  induction ls with
  | nil => simp
  | cons l r ih =>
    have h1 := lineB_pos (h l List.mem_cons_self)
    have h2 := ih (fun x hx => h x (List.mem_cons_of_mem l hx))
    rw [List.flatMap_cons, List.length_append, List.length_cons]
    omega

/-- One more draw. -/
def moreB (B : BetD) : BetD := ⟨B.lines, B.sys, B.draws + 1, B.addons⟩
theorem betP_more {g : GameD} {B : BetD} (h : (betP g B).2 = 0) (hd : B.draws < g.draws) : betP g (moreB B) = betP g B := by
  obtain ⟨p1, p2, p3, p4, p5, p6, p7, p8, p9, p10⟩ := betP_ok h
  rw [betP_tail p1 p2 p3] at h ⊢
  rw [betP_tail (B := moreB B) p1 p2 p3]
  show tailB g (moreB B) (scanB g B.sys B.lines [] 0) = _
  obtain ⟨R, hR⟩ : ∃ R, R = scanB g B.sys B.lines [] 0 := ⟨_, rfl⟩
  rw [← hR] at h ⊢
  have n1 : ¬ R.2 ≠ 0 := by
    intro h1
    unfold tailB at h
    rw [if_pos h1] at h
    exact h1 h
  have n2 : ¬ 1024 < R.1 := by
    intro h2
    unfold tailB at h
    rw [if_neg n1, if_pos h2] at h
    exact absurd h (by simp)
  have e1 : ¬ ((moreB B).draws < 1 ∨ g.draws < (moreB B).draws) := by show ¬ (B.draws + 1 < 1 ∨ g.draws < B.draws + 1); omega
  have e2 : ¬ (B.draws < 1 ∨ g.draws < B.draws) := by omega
  have a1 : tailB g (moreB B) R = if (moreB B).addons < 0 ∨ 2 ^ g.addons.length ≤ (moreB B).addons then (0, 2) else (R.1, 0) := by
    unfold tailB; rw [if_neg n1, if_neg n2, if_neg e1]
  have a2 : tailB g B R = if B.addons < 0 ∨ 2 ^ g.addons.length ≤ B.addons then (0, 2) else (R.1, 0) := by
    unfold tailB; rw [if_neg n1, if_neg n2, if_neg e2]
  rw [a1, a2]
  rfl
theorem stakeP_more {g : GameD} {B : BetD} (h : (betP g B).2 = 0) (hd : B.draws < g.draws) : stakeP g (moreB B) = stakeP g B := by
  unfold stakeP
  rw [betP_more h hd]
  rfl

set_option maxHeartbeats 4000000 in
set_option maxRecDepth 100000 in
theorem prices16_bad (g : GameD) (av tv : Value) (ms : List AddonM) (lv : Value) (B : BetD) (w : World) (hg : GameR w av tv ms g) (hl : LinesR w lv B.lines) (he : (betP g B).2 ≠ 0) :
    Calls Try.prog 6 #[gameVal g av tv, betVal lv B] w (BoolB true w) := by
  have cF := hide (fun X (hX : Below w.heap.size w X) => few16_any lv B X (hl.below hX))
  have cC := hide (fun X (hX : Below w.heap.size w X) => bCheck_any g av tv lv ms B X (hg.below hX) (hl.below hX))
  have cL := hide (fun X (hX : Below w.heap.size w X) => blines_own g av tv lv ms B X (hg.below hX) (hl.below hX))
  have cS := hide (fun X (hX : Below w.heap.size w X) => bstake_any g av tv lv ms B X (hg.below hX) (hl.below hX))
  have cP := hide (fun X (hX : Below w.heap.size w X) => bprice_any g av tv lv ms B X (hg.below hX) (hl.below hX))
  have e1 : linesP16 g B = ([], (betP g B).2) := by unfold linesP16; rw [if_neg he]
  have e2 : stakeP g B = (0, 0, (betP g B).2) := by unfold stakeP; rw [if_neg he]
  have e3 : priceP g B = (0, (betP g B).2) := by unfold priceP; rw [if_neg he]
  rw [e1] at cL
  rw [e2] at cS
  rw [e3] at cP
  obtain ⟨c, hc⟩ : ∃ c, c = (betP g B).2 := ⟨_, rfl⟩
  simp only [← hc] at cC cL cS cP
  rw [← hc] at he
  have hcb : (c != 0) = true := by simpa using he
  have hcc : (c != c) = false := by simp
  obtain ⟨aa, ac, rfl, hal, ham⟩ := hg.1.1.shape
  obtain ⟨ta, tc, rfl, htl, htm⟩ := hg.2.2.shape
  obtain ⟨la, lc, rfl, hlc, hlm⟩ := hl.shape
  clear hg hl e1 e2 e3 hc
  replace he := hide he
  unfold gameVal betVal at cC cL cS cP
  unfold betVal at cF
  unfold gameVal betVal
  go_enter Try.func6, Try.ntmps6
  go_upto_region 1 with (fail)
  obtain ⟨W, hW⟩ : ∃ W, W = ((w.alloc (Obj.cells #[.string g.name, .int .i64 g.kind, .int .i64 g.price, .int .i64 g.main, .int .i64 g.of, .int .i64 g.bonus, .int .i64 g.bonusOf, .int .i64 g.extra, .int .i64 g.draws, .int .i64 g.system, .int .i64 g.days, .int .i64 g.at_, .int .i64 g.close, .int .i64 g.cancel, .int .i64 g.expiry, .int .i64 g.pool, .int .i64 g.reserve, .int .i64 g.round, .int .i64 g.cap, .int .i64 g.rolls, (.slice aa ms.length ac), (.slice ta g.tiers.length tc)] 25)).alloc (Obj.cells #[(.slice la B.lines.length lc), .bool B.sys, .int .i64 B.draws, .int .i64 B.addons] 44)) := ⟨_, rfl⟩
  have bW : Below w.heap.size w W := by rw [hW]; exact Bel.al (Bel.al (Below.refl _ _) _) _
  have r0 : GameAt W (w.heap.size) g ((.slice aa ms.length ac)) ((.slice ta g.tiers.length tc)) := by rw [hW]; exact Row.alloc (Row.new _ _ _) _
  have r1 : Row W ((w.heap.size + 1)) 44 [(.slice la B.lines.length lc), .bool B.sys, .int .i64 B.draws, .int .i64 B.addons] := by rw [hW]; exact Row.at2 _ _ _ _
  have sW : w.heap.size + 1 < W.heap.size := by rw [hW]; simp
  rw [← hW]
  clear hW
  go_wp2_with (first | (refine wpList_load_row rfl 44 _ rfl _ rfl _ _ _ _ r1 Try.underlying44 rfl (by kernel_rfl) ?_) | fail)
  refine (cF.out _ bW).mono ?_
  rintro e w1 ⟨q, rfl, hb1⟩
  have B1 := Bel.to bW hb1
  have r0 := r0.keep hb1
  have r1 := Row.keep r1 hb1
  clear hb1 bW
  cases q with
  | false =>
    go_wp2_with fail
    refine (awake16_any _).mono ?_
    rintro e w9 ⟨rfl, hb9⟩
    go_wp2
    go_ret
    exact ⟨rfl, Bel.to B1 hb9⟩
  | true =>
    go_wp2_with (first | (refine wpList_load_row rfl 25 _ rfl _ rfl _ _ _ _ r0 Try.underlying25 rfl (by kernel_rfl) ?_) | (refine wpList_load_row rfl 44 _ rfl _ rfl _ _ _ _ r1 Try.underlying44 rfl (by kernel_rfl) ?_) | fail)
    refine (cC.out _ B1).mono ?_
    rintro e w2 ⟨rfl, hb⟩
    replace B1 := Bel.to B1 hb
    replace r0 := r0.keep hb
    replace r1 := Row.keep r1 hb
    clear hb
    go_wp2_with (first | (refine wpList_load_row rfl 25 _ rfl _ rfl _ _ _ _ r0 Try.underlying25 rfl (by kernel_rfl) ?_) | (refine wpList_load_row rfl 44 _ rfl _ rfl _ _ _ _ r1 Try.underlying44 rfl (by kernel_rfl) ?_) | fail)
    refine (cL.out _ B1).mono ?_
    rintro e w3 ⟨u, rfl, hu, hb⟩
    obtain ⟨ua, uc, rfl⟩ := hu.shape
    replace B1 := Bel.to B1 hb
    replace r0 := r0.keep hb
    replace r1 := Row.keep r1 hb
    rw [List.length_nil]
    clear hb hu
    go_wp2_with (first | (refine wpList_load_row rfl 25 _ rfl _ rfl _ _ _ _ r0 Try.underlying25 rfl (by kernel_rfl) ?_) | (refine wpList_load_row rfl 44 _ rfl _ rfl _ _ _ _ r1 Try.underlying44 rfl (by kernel_rfl) ?_) | fail)
    refine (cS.out _ B1).mono ?_
    rintro e w4 ⟨rfl, hb⟩
    replace B1 := Bel.to B1 hb
    replace r0 := r0.keep hb
    replace r1 := Row.keep r1 hb
    clear hb
    go_wp2_with (first | (refine wpList_load_row rfl 25 _ rfl _ rfl _ _ _ _ r0 Try.underlying25 rfl (by kernel_rfl) ?_) | (refine wpList_load_row rfl 44 _ rfl _ rfl _ _ _ _ r1 Try.underlying44 rfl (by kernel_rfl) ?_) | fail)
    refine (cP.out _ B1).mono ?_
    rintro e w5 ⟨rfl, hb⟩
    replace B1 := Bel.to B1 hb
    clear hb r0 r1
    go_wp2_with fail
    refine (awake16_any _).mono ?_
    rintro e w9 ⟨rfl, hb9⟩
    go_wp2
    go_ret
    exact ⟨rfl, Bel.to B1 hb9⟩

set_option maxHeartbeats 4000000 in
set_option maxRecDepth 100000 in
theorem prices16_ok (g : GameD) (av tv : Value) (ms : List AddonM) (lv : Value) (B : BetD) (w : World) (hg : GameR w av tv ms g) (hl : LinesR w lv B.lines) (he : (betP g B).2 = 0) :
    Calls Try.prog 6 #[gameVal g av tv, betVal lv B] w (BoolB true w) := by
  have cF := hide (fun X (hX : Below w.heap.size w X) => few16_any lv B X (hl.below hX))
  have cC := hide (fun X (hX : Below w.heap.size w X) => bCheck_any g av tv lv ms B X (hg.below hX) (hl.below hX))
  have cL := hide (fun X (hX : Below w.heap.size w X) => blines_ok g av tv lv ms B X (hg.below hX) (hl.below hX) he)
  have cS := hide (fun X (hX : Below w.heap.size w X) => bstake_any g av tv lv ms B X (hg.below hX) (hl.below hX))
  have cP := hide (fun X (hX : Below w.heap.size w X) => bprice_any g av tv lv ms B X (hg.below hX) (hl.below hX))
  have cM := hide (fun X (hX : Below w.heap.size w X) => bprice_any g av tv lv ms (moreB B) X (hg.below hX) (hl.below hX))
  obtain ⟨p1, p2, p3, p4, p5, p6, p7, p8, p9, p10⟩ := betP_ok he
  obtain ⟨t1, t2, t3, t4⟩ := game_price p1
  obtain ⟨x0, x1, y0, y1, -, -⟩ := price_bd he
  have hge := flat_ge p10
  have hx : (stakeP g B).1 = g.price * ((linesB g B).length : Int) := by unfold stakeP; rw [if_pos he, p4]
  have hp : priceP g B = (((stakeP g B).1 + (stakeP g B).2.1) * B.draws, 0) := by unfold priceP; rw [if_pos he]
  have hm : B.draws < g.draws → priceP g (moreB B) = (((stakeP g B).1 + (stakeP g B).2.1) * B.draws + (stakeP g B).1 + (stakeP g B).2.1, 0) := by
    intro hd
    unfold priceP
    rw [betP_more he hd, if_pos he, stakeP_more he hd]
    show (((stakeP g B).1 + (stakeP g B).2.1) * (B.draws + 1), (0 : Int)) = _
    rw [Int.mul_add, Int.mul_one]
    congr 1
    omega
  rw [hp] at cP
  rw [he] at cC cS
  obtain ⟨N, hN⟩ : ∃ N, N = (linesB g B).length := ⟨_, rfl⟩
  obtain ⟨X, hX⟩ : ∃ X, X = (stakeP g B).1 := ⟨_, rfl⟩
  obtain ⟨Y, hY⟩ : ∃ Y, Y = (stakeP g B).2.1 := ⟨_, rfl⟩
  have hge2 : B.lines.length ≤ N := by rw [hN]; exact hge
  rw [← hN] at hx p5
  rw [← hX] at hx x0 x1 hm cS cP
  rw [← hY] at y0 y1 hm cS cP
  have hpb0 : 0 ≤ (X + Y) * B.draws := Int.mul_nonneg (by omega) (by omega)
  have hpb1 : (X + Y) * B.draws ≤ 5120000000 * 32 := Int.mul_le_mul (by omega) (by omega) (by omega) (by omega)
  obtain ⟨Pv, hPv⟩ : ∃ Pv, Pv = (X + Y) * B.draws := ⟨_, rfl⟩
  rw [← hPv] at hm cP hpb0 hpb1
  have k1 : IntKind.i64.wrap (g.price * (N : Int)) = X := by rw [← hx, IntWalk.i64_in _ (by omega)]
  have k2 : IntKind.i64.wrap ((X + Y) * B.draws) = Pv := by rw [← hPv, IntWalk.i64_in _ (by omega)]
  have k3 : (X != X) = false := by simp
  have k4 : (Pv != Pv) = false := by simp
  have k5 : ¬ (N : Int) < (B.lines.length : Int) := by omega
  have k5d : decide ((N : Int) < (B.lines.length : Int)) = false := decide_eq_false k5
  have k5e : ¬ N < B.lines.length := by omega
  have n2 : (B.lines.length : Int) ≤ 16 := by omega
  obtain ⟨T, hT⟩ : ∃ T, T = linesB g B := ⟨_, rfl⟩
  rw [← hT] at cL hN
  have hNh := hide hN.symm
  have hd1 : 1 ≤ B.draws := p6
  have hd2 : B.draws ≤ 32 := by omega
  have hm := hide hm
  obtain ⟨aa, ac, rfl, hal, ham⟩ := hg.1.1.shape
  obtain ⟨ta, tc, rfl, htl, htm⟩ := hg.2.2.shape
  obtain ⟨la, lc, rfl, hlc, hlm⟩ := hl.shape
  replace hPv := hide hPv
  replace hx := hide hx
  clear hg hl p1 p2 p3 p4 p6 p7 p8 p9 p10 hp hX hY hT hN he hge hge2
  unfold gameVal betVal at cC cL cS cP cM
  unfold betVal at cF
  unfold gameVal betVal
  go_enter Try.func6, Try.ntmps6
  go_upto_region 1 with (fail)
  obtain ⟨W, hW⟩ : ∃ W, W = ((w.alloc (Obj.cells #[.string g.name, .int .i64 g.kind, .int .i64 g.price, .int .i64 g.main, .int .i64 g.of, .int .i64 g.bonus, .int .i64 g.bonusOf, .int .i64 g.extra, .int .i64 g.draws, .int .i64 g.system, .int .i64 g.days, .int .i64 g.at_, .int .i64 g.close, .int .i64 g.cancel, .int .i64 g.expiry, .int .i64 g.pool, .int .i64 g.reserve, .int .i64 g.round, .int .i64 g.cap, .int .i64 g.rolls, (.slice aa ms.length ac), (.slice ta g.tiers.length tc)] 25)).alloc (Obj.cells #[(.slice la B.lines.length lc), .bool B.sys, .int .i64 B.draws, .int .i64 B.addons] 44)) := ⟨_, rfl⟩
  have bW : Below w.heap.size w W := by rw [hW]; exact Bel.al (Bel.al (Below.refl _ _) _) _
  have r0 : GameAt W (w.heap.size) g ((.slice aa ms.length ac)) ((.slice ta g.tiers.length tc)) := by rw [hW]; exact Row.alloc (Row.new _ _ _) _
  have r1 : Row W ((w.heap.size + 1)) 44 [(.slice la B.lines.length lc), .bool B.sys, .int .i64 B.draws, .int .i64 B.addons] := by rw [hW]; exact Row.at2 _ _ _ _
  have sW : w.heap.size + 1 < W.heap.size := by rw [hW]; simp
  rw [← hW]
  clear hW
  go_wp2_with (first | (refine wpList_load_row rfl 44 _ rfl _ rfl _ _ _ _ r1 Try.underlying44 rfl (by kernel_rfl) ?_) | fail)
  refine (cF.out _ bW).mono ?_
  rintro e w1 ⟨q, rfl, hb1⟩
  have B1 := Bel.to bW hb1
  have r0 := r0.keep hb1
  have r1 := Row.keep r1 hb1
  clear hb1 bW
  cases q with
  | false =>
    go_wp2_with fail
    refine (awake16_any _).mono ?_
    rintro e w9 ⟨rfl, hb9⟩
    go_wp2
    go_ret
    exact ⟨rfl, Bel.to B1 hb9⟩
  | true =>
    go_wp2_with (first | (refine wpList_load_row rfl 25 _ rfl _ rfl _ _ _ _ r0 Try.underlying25 rfl (by kernel_rfl) ?_) | (refine wpList_load_row rfl 44 _ rfl _ rfl _ _ _ _ r1 Try.underlying44 rfl (by kernel_rfl) ?_) | fail)
    refine (cC.out _ B1).mono ?_
    rintro e w2 ⟨rfl, hb⟩
    replace B1 := Bel.to B1 hb
    replace r0 := r0.keep hb
    replace r1 := Row.keep r1 hb
    clear hb
    go_wp2_with (first | (refine wpList_load_row rfl 25 _ rfl _ rfl _ _ _ _ r0 Try.underlying25 rfl (by kernel_rfl) ?_) | (refine wpList_load_row rfl 44 _ rfl _ rfl _ _ _ _ r1 Try.underlying44 rfl (by kernel_rfl) ?_) | fail)
    refine (cL.out _ B1).mono ?_
    rintro e w3 ⟨u, rfl, hu, hb⟩
    obtain ⟨ua, uc, rfl⟩ := hu.shape
    replace B1 := Bel.to B1 hb
    replace r0 := r0.keep hb
    replace r1 := Row.keep r1 hb
    rw [hNh.out]
    clear hb hu
    go_wp2_with (first | (refine wpList_load_row rfl 25 _ rfl _ rfl _ _ _ _ r0 Try.underlying25 rfl (by kernel_rfl) ?_) | (refine wpList_load_row rfl 44 _ rfl _ rfl _ _ _ _ r1 Try.underlying44 rfl (by kernel_rfl) ?_) | fail)
    refine (cS.out _ B1).mono ?_
    rintro e w4 ⟨rfl, hb⟩
    replace B1 := Bel.to B1 hb
    replace r0 := r0.keep hb
    replace r1 := Row.keep r1 hb
    clear hb
    go_wp2_with (first | (refine wpList_load_row rfl 25 _ rfl _ rfl _ _ _ _ r0 Try.underlying25 rfl (by kernel_rfl) ?_) | (refine wpList_load_row rfl 44 _ rfl _ rfl _ _ _ _ r1 Try.underlying44 rfl (by kernel_rfl) ?_) | fail)
    refine (cP.out _ B1).mono ?_
    rintro e w5 ⟨rfl, hb⟩
    replace B1 := Bel.to B1 hb
    replace r0 := r0.keep hb
    replace r1 := Row.keep r1 hb
    clear hb
    have d2 := r0.price
    have d8 := r0.draws
    have c0 : w5.cell? ⟨w.heap.size + 1, 0, none⟩ = some (.slice la B.lines.length lc) := (r1.cell? 0).trans rfl
    have c2 : w5.cell? ⟨w.heap.size + 1, 2, none⟩ = some (.int .i64 B.draws) := (r1.cell? 2).trans rfl
    by_cases hdd : B.draws < g.draws
    · have hddd : decide (B.draws < g.draws) = true := decide_eq_true hdd
      have hmm := hm.out hdd
      rw [hmm] at cM
      go_upto_region 14 with (fail)
      go_upto_region 15 with (first | (refine wpList_load_row rfl 44 _ rfl _ rfl _ _ _ _ r1 Try.underlying44 rfl (by kernel_rfl) ?_) | fail)
      obtain ⟨W6, hW6⟩ : ∃ W6, W6 = w5.alloc (.cells #[.slice la B.lines.length lc, .bool B.sys, .int .i64 B.draws, .int .i64 B.addons] 44) := ⟨_, rfl⟩
      have b6 : Below w5.heap.size w5 W6 := by rw [hW6]; exact Bel.al (Below.refl _ _) _
      have r2 : Row W6 w5.heap.size 44 [.slice la B.lines.length lc, .bool B.sys, .int .i64 B.draws, .int .i64 B.addons] := by rw [hW6]; exact Row.newOf _ rfl
      rw [← hW6]
      clear hW6
      have c2 := Bel.cellOf b6 c2
      have m2 : W6.cell? ⟨w5.heap.size, 2, none⟩ = some (.int .i64 B.draws) := (r2.cell? 2).trans rfl
      have m3 := r2.frozen 2
      have r0 := r0.keep b6
      have B6 := Bel.to B1 b6
      have B7 : Below w.heap.size w (W6.setCell ⟨w5.heap.size, 2, none⟩ (.int .i64 (B.draws + 1))) := B6.setCell (p := ⟨w5.heap.size, 2, none⟩) B1.size _
      have r3 : Row (W6.setCell ⟨w5.heap.size, 2, none⟩ (.int .i64 (B.draws + 1))) w5.heap.size 44 [.slice la B.lines.length lc, .bool B.sys, .int .i64 (B.draws + 1), .int .i64 B.addons] := Row.set r2 2 (.int .i64 (B.draws + 1))
      have r0 : GameAt (W6.setCell ⟨w5.heap.size, 2, none⟩ (.int .i64 (B.draws + 1))) w.heap.size g (.slice aa ms.length ac) (.slice ta g.tiers.length tc) := Row.far r0 (p := ⟨w5.heap.size, 2, none⟩) (by have := Row.lt r1; simp only []; omega) _
      go_upto_region 16 with (fail)
      obtain ⟨W7, hW7⟩ : ∃ W7, W7 = W6.setCell ⟨w5.heap.size, 2, none⟩ (.int .i64 (B.draws + 1)) := ⟨_, rfl⟩
      rw [← hW7] at B7 r3 r0 ⊢
      clear hW7 m2 m3 r2 B6 b6 c2 c0
      go_wp2_with (first | (refine wpList_load_row rfl 25 _ rfl _ rfl _ _ _ _ r0 Try.underlying25 rfl (by kernel_rfl) ?_) | (refine wpList_load_row rfl 44 _ rfl _ rfl _ _ _ _ r3 Try.underlying44 rfl (by kernel_rfl) ?_) | fail)
      refine (cM.out _ B7).mono ?_
      rintro e w8 ⟨rfl, hb8⟩
      have B8 := Bel.to B7 hb8
      have q1 : ((Pv + X + Y) != (Pv + X + Y)) = false := by simp
      clear r0 r3 hb8
      go_wp2_with fail
      refine (awake16_any _).mono ?_
      rintro e w9 ⟨rfl, hb9⟩
      go_wp2
      go_ret
      exact ⟨rfl, Bel.to B8 hb9⟩
    · have hddd : decide (B.draws < g.draws) = false := decide_eq_false hdd
      go_wp2_with fail
      refine (awake16_any _).mono ?_
      rintro e w9 ⟨rfl, hb9⟩
      go_wp2
      go_ret
      exact ⟨rfl, Bel.to B1 hb9⟩

theorem prices16_any (g : GameD) (av tv : Value) (ms : List AddonM) (lv : Value) (B : BetD) (w : World) (hg : GameR w av tv ms g) (hl : LinesR w lv B.lines) :
    Calls Try.prog 6 #[gameVal g av tv, betVal lv B] w (BoolB true w) := by
  by_cases he : (betP g B).2 = 0
  · exact prices16_ok g av tv ms lv B w hg hl he
  · exact prices16_bad g av tv ms lv B w hg hl he
end Go.Proofs.Ytgmbnbdbmkdlgaa
end

section
/- The walk of the statement BetJoins: it returns true, whatever the game and the bet. -/
open Go.RowKit
set_option linter.unusedVariables false
set_option linter.unusedSimpArgs false
namespace Go.Proofs.Ytgmbnbdbmkdlgaa

set_option maxHeartbeats 4000000 in
set_option maxRecDepth 100000 in
theorem joins16_long (g : GameD) (av tv : Value) (ms : List AddonM) (lv : Value) (B : BetD) (w : World) (hg : GameR w av tv ms g) (hl : LinesR w lv B.lines) (hn : 12 < B.lines.length) :
    Calls Try.prog 9 #[gameVal g av tv, betVal lv B] w (BoolB true w) := by
  have cF := hide (fun X (hX : Below w.heap.size w X) => few16_any lv B X (hl.below hX))
  obtain ⟨aa, ac, rfl, hal, ham⟩ := hg.1.1.shape
  obtain ⟨ta, tc, rfl, htl, htm⟩ := hg.2.2.shape
  obtain ⟨la, lc, rfl, hlc, hlm⟩ := hl.shape
  have h12 : (12 : Int) < (B.lines.length : Int) := by omega
  have h12d : decide ((12 : Int) < (B.lines.length : Int)) = true := decide_eq_true h12
  clear hg hl hn
  unfold betVal at cF
  unfold gameVal betVal
  go_enter Try.func9, Try.ntmps9
  go_upto_region 1 with (fail)
  obtain ⟨W, hW⟩ : ∃ W, W = ((w.alloc (Obj.cells #[.string g.name, .int .i64 g.kind, .int .i64 g.price, .int .i64 g.main, .int .i64 g.of, .int .i64 g.bonus, .int .i64 g.bonusOf, .int .i64 g.extra, .int .i64 g.draws, .int .i64 g.system, .int .i64 g.days, .int .i64 g.at_, .int .i64 g.close, .int .i64 g.cancel, .int .i64 g.expiry, .int .i64 g.pool, .int .i64 g.reserve, .int .i64 g.round, .int .i64 g.cap, .int .i64 g.rolls, (.slice aa ms.length ac), (.slice ta g.tiers.length tc)] 25)).alloc (Obj.cells #[(.slice la B.lines.length lc), .bool B.sys, .int .i64 B.draws, .int .i64 B.addons] 44)) := ⟨_, rfl⟩
  have bW : Below w.heap.size w W := by rw [hW]; exact Bel.al (Bel.al (Below.refl _ _) _) _
  have r0 : GameAt W (w.heap.size) g ((.slice aa ms.length ac)) ((.slice ta g.tiers.length tc)) := by rw [hW]; exact Row.alloc (Row.new _ _ _) _
  have r1 : Row W ((w.heap.size + 1)) 44 [(.slice la B.lines.length lc), .bool B.sys, .int .i64 B.draws, .int .i64 B.addons] := by rw [hW]; exact Row.at2 _ _ _ _
  have sW : w.heap.size + 1 < W.heap.size := by rw [hW]; simp
  rw [← hW]
  clear hW
  go_wp2_with (first | (refine wpList_load_row rfl 44 _ rfl _ rfl _ _ _ _ r1 Try.underlying44 rfl (by kernel_rfl) ?_) | fail)
  refine (cF.out _ bW).mono ?_
  rintro e w1 ⟨q, rfl, hb1⟩
  have B1 := Bel.to bW hb1
  have c0 : w1.cell? ⟨w.heap.size + 1, 0, none⟩ = some (.slice la B.lines.length lc) := ((Row.keep r1 hb1).cell? 0).trans rfl
  clear hb1 bW r0 r1
  cases q with
  | false =>
    go_wp2_with fail
    refine (awake16_any _).mono ?_
    rintro e w9 ⟨rfl, hb9⟩
    go_wp2
    go_ret
    exact ⟨rfl, Bel.to B1 hb9⟩
  | true =>
    go_wp2_with fail
    refine (awake16_any _).mono ?_
    rintro e w9 ⟨rfl, hb9⟩
    go_wp2
    go_ret
    exact ⟨rfl, Bel.to B1 hb9⟩

set_option maxHeartbeats 4000000 in
set_option maxRecDepth 100000 in
theorem joins16_bad (g : GameD) (av tv : Value) (ms : List AddonM) (lv : Value) (B : BetD) (w : World) (hg : GameR w av tv ms g) (hl : LinesR w lv B.lines) (hn : B.lines.length ≤ 12) (he : (betP g B).2 ≠ 0) :
    Calls Try.prog 9 #[gameVal g av tv, betVal lv B] w (BoolB true w) := by
  have cF := hide (fun X (hX : Below w.heap.size w X) => few16_any lv B X (hl.below hX))
  have cL := hide (fun X (hX : Below w.heap.size w X) => blines_bad g av tv lv ms B X (hg.below hX) (hl.below hX) he)
  obtain ⟨c, hc⟩ : ∃ c, c = (betP g B).2 := ⟨_, rfl⟩
  rw [← hc] at cL he
  have hcb : (c != 0) = true := by simpa using he
  obtain ⟨aa, ac, rfl, hal, ham⟩ := hg.1.1.shape
  obtain ⟨ta, tc, rfl, htl, htm⟩ := hg.2.2.shape
  obtain ⟨la, lc, rfl, hlc, hlm⟩ := hl.shape
  have h12 : ¬ (12 : Int) < (B.lines.length : Int) := by omega
  have h12d : decide ((12 : Int) < (B.lines.length : Int)) = false := decide_eq_false h12
  clear hg hl hc
  replace he := hide he
  unfold gameVal betVal at cL
  unfold betVal at cF
  unfold gameVal betVal
  go_enter Try.func9, Try.ntmps9
  go_upto_region 1 with (fail)
  obtain ⟨W, hW⟩ : ∃ W, W = ((w.alloc (Obj.cells #[.string g.name, .int .i64 g.kind, .int .i64 g.price, .int .i64 g.main, .int .i64 g.of, .int .i64 g.bonus, .int .i64 g.bonusOf, .int .i64 g.extra, .int .i64 g.draws, .int .i64 g.system, .int .i64 g.days, .int .i64 g.at_, .int .i64 g.close, .int .i64 g.cancel, .int .i64 g.expiry, .int .i64 g.pool, .int .i64 g.reserve, .int .i64 g.round, .int .i64 g.cap, .int .i64 g.rolls, (.slice aa ms.length ac), (.slice ta g.tiers.length tc)] 25)).alloc (Obj.cells #[(.slice la B.lines.length lc), .bool B.sys, .int .i64 B.draws, .int .i64 B.addons] 44)) := ⟨_, rfl⟩
  have bW : Below w.heap.size w W := by rw [hW]; exact Bel.al (Bel.al (Below.refl _ _) _) _
  have r0 : GameAt W (w.heap.size) g ((.slice aa ms.length ac)) ((.slice ta g.tiers.length tc)) := by rw [hW]; exact Row.alloc (Row.new _ _ _) _
  have r1 : Row W ((w.heap.size + 1)) 44 [(.slice la B.lines.length lc), .bool B.sys, .int .i64 B.draws, .int .i64 B.addons] := by rw [hW]; exact Row.at2 _ _ _ _
  have sW : w.heap.size + 1 < W.heap.size := by rw [hW]; simp
  rw [← hW]
  clear hW
  go_wp2_with (first | (refine wpList_load_row rfl 44 _ rfl _ rfl _ _ _ _ r1 Try.underlying44 rfl (by kernel_rfl) ?_) | fail)
  refine (cF.out _ bW).mono ?_
  rintro e w1 ⟨q, rfl, hb1⟩
  have B1 := Bel.to bW hb1
  have r0 := r0.keep hb1
  have r1 := Row.keep r1 hb1
  have c0 : w1.cell? ⟨w.heap.size + 1, 0, none⟩ = some (.slice la B.lines.length lc) := (r1.cell? 0).trans rfl
  clear hb1 bW
  cases q with
  | false =>
    go_wp2_with fail
    refine (awake16_any _).mono ?_
    rintro e w9 ⟨rfl, hb9⟩
    go_wp2
    go_ret
    exact ⟨rfl, Bel.to B1 hb9⟩
  | true =>
    go_wp2_with (first | (refine wpList_load_row rfl 25 _ rfl _ rfl _ _ _ _ r0 Try.underlying25 rfl (by kernel_rfl) ?_) | (refine wpList_load_row rfl 44 _ rfl _ rfl _ _ _ _ r1 Try.underlying44 rfl (by kernel_rfl) ?_) | fail)
    refine (cL.out _ B1).mono ?_
    rintro e w2 ⟨u, rfl, hu, hb⟩
    obtain ⟨ua, uc, rfl⟩ := hu.shape
    replace B1 := Bel.to B1 hb
    clear hb r1 r0 hu c0
    go_wp2_with fail
    refine (awake16_any _).mono ?_
    rintro e w9 ⟨rfl, hb9⟩
    go_wp2
    go_ret
    exact ⟨rfl, Bel.to B1 hb9⟩

theorem own_ne {w : World} {base : Nat} {v : Value} {ls : List LineD} {c : Nat} {cs : List Value} (h : OwnLn w base v ls) (hr : Row w c 44 cs) (ht : 28 ≠ 44) : ∀ b, v.ownBlock = some b → b ≠ c := fun b hb => h.ne hb hr ht
theorem OwnLn.setNe {w : World} {base : Nat} {v : Value} {ls : List LineD} (h : OwnLn w base v ls) {c : Nat} {u : Value} (hc : w.cell? ⟨c, 0, none⟩ = some u) (hu : ∀ x, I64 x ≠ u) (hne : ∀ b, v.ownBlock = some b → b ≠ c) (u' : Value) : OwnLn (w.setCell ⟨c, 0, none⟩ u') base v ls := by
  obtain ⟨vs, h1, h2, h3⟩ := h
  refine ⟨vs, World.ownsRow.kept h1 (Gb.set (g := c) (Gb.refl w (some c)) (p := ⟨c, 0, none⟩) (.inl rfl) u') ?_, h2, fun i p x hp hx => ?_⟩
  · cases hv : v.ownBlock with
    | none => exact .inl rfl
    | some k => exact .inr (by intro e; injection e with e; exact hne k hv e)
  · obtain ⟨⟨a1, a2⟩, b⟩ := h3 i p x hp hx
    exact ⟨⟨a1.setNe hc hu u', a2.setNe hc hu u'⟩, b⟩

set_option maxHeartbeats 8000000 in
set_option maxRecDepth 100000 in
theorem joins16_ok (g : GameD) (av tv : Value) (ms : List AddonM) (lv : Value) (B : BetD) (w : World) (hg : GameR w av tv ms g) (hl : LinesR w lv B.lines) (hn : B.lines.length ≤ 12) (he : (betP g B).2 = 0) :
    Calls Try.prog 9 #[gameVal g av tv, betVal lv B] w (BoolB true w) := by
  have cF := hide (fun X (hX : Below w.heap.size w X) => few16_any lv B X (hl.below hX))
  have cL := hide (fun X (hX : Below w.heap.size w X) => blines_ok g av tv lv ms B X (hg.below hX) (hl.below hX) he)
  have cO := hide (fun X v l (hX : Below w.heap.size w X) (hv : LinesR X v [l]) (hm : l ∈ B.lines) => (by
    obtain ⟨o1, o2⟩ := betP_one he hm
    have h9 := blines_ok g av tv v ms (oneB B l) X (hg.below hX) hv o1
    rw [o2] at h9
    exact h9 : Calls Try.prog 22 #[gameVal g av tv, betVal v (oneB B l)] X (LinesO (lineB g B.sys l) 0 X)))
  have cT := hide (fun X v l (hX : Below w.heap.size w X) (hv : LinesR X v (B.lines ++ [l])) (hm : l ∈ B.lines) => (by
    have h9 := bCheck_any g av tv v ms (twiceB B l) X (hg.below hX) hv
    rw [betP_twice he hn hm] at h9
    exact h9 : Calls Try.prog 21 #[gameVal g av tv, betVal v (twiceB B l)] X (IntB 6 X)))
  obtain ⟨p1, p2, p3, p4, p5, p6, p7, p8, p9, p10⟩ := betP_ok he
  have hne := hide (fun l (hm : l ∈ B.lines) => List.length_pos_iff.1 (lineB_pos (p10 l hm)))
  obtain ⟨T, hT⟩ : ∃ T, T = linesB g B := ⟨_, rfl⟩
  have hT2 := hide (show T = B.lines.flatMap (lineB g B.sys) from hT)
  rw [← hT] at cL p5
  have p5h := hide p5
  have hlw := hide hl
  obtain ⟨aa, ac, rfl, hal, ham⟩ := hg.1.1.shape
  obtain ⟨ta, tc, rfl, htl, htm⟩ := hg.2.2.shape
  obtain ⟨la, lc, rfl, hlc, hlm⟩ := hl.shape
  obtain ⟨n, hnn⟩ : ∃ n, n = B.lines.length := ⟨_, rfl⟩
  rw [← hnn] at hlw hlc cF cL hn p2
  have n1 : (1 : Int) ≤ (n : Int) := by omega
  have h12 : ¬ (12 : Int) < (n : Int) := by omega
  have h12d : decide ((12 : Int) < (n : Int)) = false := decide_eq_false h12
  have n12 : (n : Int) ≤ 12 := by omega
  replace hnn := hide hnn
  clear hg hl he p1 p3 p4 p6 p7 p8 p9 p10 hT p5 p2
  unfold gameVal betVal at cL cO cT
  unfold betVal at cF
  unfold gameVal betVal
  rw [← hnn.out]
  go_enter Try.func9, Try.ntmps9
  go_upto_region 1 with (fail)
  obtain ⟨W, hW⟩ : ∃ W, W = ((w.alloc (Obj.cells #[.string g.name, .int .i64 g.kind, .int .i64 g.price, .int .i64 g.main, .int .i64 g.of, .int .i64 g.bonus, .int .i64 g.bonusOf, .int .i64 g.extra, .int .i64 g.draws, .int .i64 g.system, .int .i64 g.days, .int .i64 g.at_, .int .i64 g.close, .int .i64 g.cancel, .int .i64 g.expiry, .int .i64 g.pool, .int .i64 g.reserve, .int .i64 g.round, .int .i64 g.cap, .int .i64 g.rolls, (.slice aa ms.length ac), (.slice ta g.tiers.length tc)] 25)).alloc (Obj.cells #[(.slice la n lc), .bool B.sys, .int .i64 B.draws, .int .i64 B.addons] 44)) := ⟨_, rfl⟩
  have bW : Below w.heap.size w W := by rw [hW]; exact Bel.al (Bel.al (Below.refl _ _) _) _
  have r0 : GameAt W (w.heap.size) g ((.slice aa ms.length ac)) ((.slice ta g.tiers.length tc)) := by rw [hW]; exact Row.alloc (Row.new _ _ _) _
  have r1 : Row W ((w.heap.size + 1)) 44 [(.slice la n lc), .bool B.sys, .int .i64 B.draws, .int .i64 B.addons] := by rw [hW]; exact Row.at2 _ _ _ _
  have sW : w.heap.size + 1 < W.heap.size := by rw [hW]; simp
  rw [← hW]
  clear hW
  go_wp2_with (first | (refine wpList_load_row rfl 44 _ rfl _ rfl _ _ _ _ r1 Try.underlying44 rfl (by kernel_rfl) ?_) | fail)
  refine (cF.out _ bW).mono ?_
  rintro e w1 ⟨q, rfl, hb1⟩
  have B1 := Bel.to bW hb1
  have r0 := r0.keep hb1
  have r1 := Row.keep r1 hb1
  have c0 : w1.cell? ⟨w.heap.size + 1, 0, none⟩ = some (.slice la n lc) := (r1.cell? 0).trans rfl
  clear hb1 bW
  cases q with
  | false =>
    go_wp2_with fail
    refine (awake16_any _).mono ?_
    rintro e w9 ⟨rfl, hb9⟩
    go_wp2
    go_ret
    exact ⟨rfl, Bel.to B1 hb9⟩
  | true =>
    go_wp2_with (first | (refine wpList_load_row rfl 25 _ rfl _ rfl _ _ _ _ r0 Try.underlying25 rfl (by kernel_rfl) ?_) | (refine wpList_load_row rfl 44 _ rfl _ rfl _ _ _ _ r1 Try.underlying44 rfl (by kernel_rfl) ?_) | fail)
    refine (cL.out _ B1).mono ?_
    rintro e w2 ⟨u, rfl, hu, hb⟩
    obtain ⟨ua, uc, rfl⟩ := hu.shape
    have hu := hide hu.rd
    replace B1 := Bel.to B1 hb
    replace r0 := r0.keep hb
    replace r1 := Row.keep r1 hb
    replace c0 := Bel.cellOf hb c0
    clear hb cL cF
    go_wp2
    go_loopg [7, 8, 9, 10, 11] n (fun gh v7 t _ _ _ wr => ∃ (k : Nat) (E : List LineD) (va : Option Addr) (vm vc : Nat), gh = n - k ∧ k ≤ n ∧ t = .int .i64 (k : Int) ∧ v7 = .slice va vm vc ∧ OwnLn wr w2.heap.size (.slice va vm vc) E ∧ Hid (E = (B.lines.take k).flatMap (lineB g B.sys)) ∧ Below w2.heap.size w2 wr)
    case atStart => exact ⟨0, [], none, 0, 0, rfl, Nat.zero_le _, rfl, rfl, OwnLn.nil _ _, rfl, Below.refl _ _⟩
    case round =>
      obtain ⟨k, E, va, vm, vc, hgh, hk, rfl, rfl, hown, hE, hB⟩ := hrel
      replace hgh := hide hgh
      have BW := Bel.to B1 hB
      have hBk := hB
      have r0 := r0.keep hB
      have r0k := r0
      have r1 := Row.keep r1 hB
      have c0 := Bel.cellOf hB c0
      by_cases hlt : k < n
      · have hlt2 := hide hlt
        have hlk : k < B.lines.length := by rw [← hnn.out]; exact hlt
        obtain ⟨b1, off1, p, q', rfl, hb1, x1, y1, hlr⟩ := (hlw.out.below BW).at_ hlk
        have hmem := List.getElem_mem hlk
        have hE2 : Hid (E ++ lineB g B.sys B.lines[k] = (B.lines.take (k + 1)).flatMap (lineB g B.sys)) := by show _ = _; rw [flat_take _ _ _ hlk, hE.out]
        have hlen : (E ++ lineB g B.sys B.lines[k]).length ≤ 1024 := by rw [hE2.out]; have := flat_le (lineB g B.sys) B.lines (k + 1); have := p5h.out; rw [hT2.out] at this; omega
        have hnz := hne.out B.lines[k] hmem
        obtain ⟨l, hl0⟩ : ∃ l, l = B.lines[k] := ⟨_, rfl⟩
        rw [← hl0] at hlr hE2 hlen hmem hnz
        clear hl0
        rw [List.length_append] at hlen
        obtain ⟨p1, p2, p3, rfl⟩ := Rd.shape hlr.1
        obtain ⟨q1, q2, q3, rfl⟩ := Rd.shape hlr.2
        have c1 : wr.cell? ⟨w.heap.size + 1, 1, none⟩ = some (.bool B.sys) := (r1.cell? 1).trans rfl
        have c2 : wr.cell? ⟨w.heap.size + 1, 2, none⟩ = some (.int .i64 B.draws) := (r1.cell? 2).trans rfl
        have c3 : wr.cell? ⟨w.heap.size + 1, 3, none⟩ = some (.int .i64 B.addons) := (r1.cell? 3).trans rfl
        have c0a := fun (o : Obj) => cell_alloc c0 o
        have c0b := fun (o o' : Obj) => cell_alloc (cell_alloc c0 o) o'
        have c1a := fun (o : Obj) => cell_alloc c1 o
        have c1b := fun (o o' : Obj) => cell_alloc (cell_alloc c1 o) o'
        have c2a := fun (o : Obj) => cell_alloc c2 o
        have c2b := fun (o o' : Obj) => cell_alloc (cell_alloc c2 o) o'
        have c3a := fun (o : Obj) => cell_alloc c3 o
        have c3b := fun (o o' : Obj) => cell_alloc (cell_alloc c3 o) o'
        have x1a := fun (o : Obj) => cell_alloc x1 o
        have x1b := fun (o o' : Obj) => cell_alloc (cell_alloc x1 o) o'
        have y1a := fun (o : Obj) => cell_alloc y1 o
        have y1b := fun (o o' : Obj) => cell_alloc (cell_alloc y1 o) o'
        have j1 : (0 : Int) ≤ (k : Int) := by omega
        have j2 : (k : Int) < (n : Int) := by omega
        replace hmem := hide hmem
        replace hnz := hide hnz
        go_upto_region 10 with (fail)
        go_region
        · obtain ⟨W5, hW5⟩ : ∃ W5, W5 = ((wr.alloc (.cells #[.slice p1 p2 p3, .slice q1 q2 q3] 28)).alloc (.cells #[.slice (some ⟨wr.heap.size, 0, none⟩) 1 1, .bool B.sys, .int .i64 B.draws, .int .i64 B.addons] 44)).drew := ⟨_, rfl⟩
          have rl : Row W5 (wr.heap.size) 28 [.slice p1 p2 p3, .slice q1 q2 q3] := by rw [hW5]; exact Row.alloc (Row.newOf (cs := [.slice p1 p2 p3, .slice q1 q2 q3]) _ rfl) _
          have ro : Row W5 (wr.heap.size + 1) 44 [.slice (some ⟨wr.heap.size, 0, none⟩) 1 1, .bool B.sys, .int .i64 B.draws, .int .i64 B.addons] := by rw [hW5]; exact Row.at2 _ _ _ _
          have b5 : Below wr.heap.size wr W5 := by rw [hW5]; exact Below.drew (Bel.al (Bel.al (Below.refl _ _) _) _)
          rw [← hW5]
          clear hW5
          have hone : LinesR W5 (.slice (some ⟨wr.heap.size, 0, none⟩) 1 1) [l] := lines_one rl (hlr.below b5)
          have cO5 := hide (cO.out W5 _ l (Bel.to BW b5) hone hmem.out)
          have r0 := r0.keep b5
          have hown5 := hown.keep b5
          have hlow := hown5.lt
          have hB5 := Bel.to hB b5
          obtain ⟨X, hX⟩ : ∃ X, X = lineB g B.sys l := ⟨_, rfl⟩
          rw [← hX] at cO5 hE2 hlen hnz
          replace hX := hide hX
          clear hown hB c0 c0a c0b c1 c1a c1b c2 c2a c2b c3 c3a c3b x1 x1a x1b y1 y1a y1b rl hlr BW
          go_wp2_with (first | (refine wpList_load_row rfl 25 _ rfl _ rfl _ _ _ _ r0 Try.underlying25 rfl (by kernel_rfl) ?_) | (refine wpList_load_row rfl 44 _ rfl _ rfl _ _ _ _ ro Try.underlying44 rfl (by kernel_rfl) ?_) | fail)
          refine cO5.out.mono ?_
          rintro e w6 ⟨x, rfl, hx, hb6⟩
          obtain ⟨xa, xc, rfl⟩ := hx.shape
          have hown6 := hown5.keep hb6
          have hB6 := Bel.to hB5 hb6
          have hsz5 := hB5.size
          clear hown5 ro r0 cO5 hb6 hone
          have hlow2 := hide (show ∀ b, (Value.slice va vm vc).ownBlock = some b → b < W5.heap.size from fun b hb => (hlow b hb).2)
          clear hlow
          go_wp2_with (first | (refine wpList_append_lns _ rfl _ _ 29 rfl w2.heap.size W5.heap.size (.agg #[.slice none 0 0, .slice none 0 0]) 48 Try.underlying29 infoLine15 lineZ15 _ E rfl hown6 _ X rfl hx hnz.out hsz5 hlow2.out (by omega) (by omega) ?_ ?_))
          case refine_1 => exact hB6.size
          intro v9 w9 hown9 hg9
          have B9 : Below w2.heap.size w2 w9 := hB6.grown hg9 hB6.size (fun b hb => (hown6.lt b hb).1)
          obtain ⟨a9, c9, rfl⟩ := hown9.shape
          clear hg9 hown6 hx
          go_wp2
          go_roundg (n - (k + 1))
          case measure => have := hgh.out; have := hlt2.out; omega
          case rel => exact ⟨k + 1, E ++ X, a9, _, c9, rfl, by have := hlt2.out; omega, by go_num, rfl, hown9, hE2, B9⟩
        · obtain ⟨W5, hW5⟩ : ∃ W5, W5 = ((wr.alloc (.cells #[.slice (some ⟨wr.heap.size + 1, 0, none⟩) 1 1, .bool B.sys, .int .i64 B.draws, .int .i64 B.addons] 44)).alloc (.cells #[.slice p1 p2 p3, .slice q1 q2 q3] 28)).drew := ⟨_, rfl⟩
          have rl : Row W5 (wr.heap.size + 1) 28 [.slice p1 p2 p3, .slice q1 q2 q3] := by rw [hW5]; exact Row.at2 _ _ _ _
          have ro : Row W5 (wr.heap.size) 44 [.slice (some ⟨wr.heap.size + 1, 0, none⟩) 1 1, .bool B.sys, .int .i64 B.draws, .int .i64 B.addons] := by rw [hW5]; exact Row.alloc (Row.newOf (cs := [.slice (some ⟨wr.heap.size + 1, 0, none⟩) 1 1, .bool B.sys, .int .i64 B.draws, .int .i64 B.addons]) _ rfl) _
          have b5 : Below wr.heap.size wr W5 := by rw [hW5]; exact Below.drew (Bel.al (Bel.al (Below.refl _ _) _) _)
          rw [← hW5]
          clear hW5
          have hone : LinesR W5 (.slice (some ⟨wr.heap.size + 1, 0, none⟩) 1 1) [l] := lines_one rl (hlr.below b5)
          have cO5 := hide (cO.out W5 _ l (Bel.to BW b5) hone hmem.out)
          have r0 := r0.keep b5
          have hown5 := hown.keep b5
          have hlow := hown5.lt
          have hB5 := Bel.to hB b5
          obtain ⟨X, hX⟩ : ∃ X, X = lineB g B.sys l := ⟨_, rfl⟩
          rw [← hX] at cO5 hE2 hlen hnz
          replace hX := hide hX
          clear hown hB c0 c0a c0b c1 c1a c1b c2 c2a c2b c3 c3a c3b x1 x1a x1b y1 y1a y1b rl hlr BW
          go_wp2_with (first | (refine wpList_load_row rfl 25 _ rfl _ rfl _ _ _ _ r0 Try.underlying25 rfl (by kernel_rfl) ?_) | (refine wpList_load_row rfl 44 _ rfl _ rfl _ _ _ _ ro Try.underlying44 rfl (by kernel_rfl) ?_) | fail)
          refine cO5.out.mono ?_
          rintro e w6 ⟨x, rfl, hx, hb6⟩
          obtain ⟨xa, xc, rfl⟩ := hx.shape
          have hown6 := hown5.keep hb6
          have hB6 := Bel.to hB5 hb6
          have hsz5 := hB5.size
          clear hown5 ro r0 cO5 hb6 hone
          have hlow2 := hide (show ∀ b, (Value.slice va vm vc).ownBlock = some b → b < W5.heap.size from fun b hb => (hlow b hb).2)
          clear hlow
          go_wp2_with (first | (refine wpList_append_lns _ rfl _ _ 29 rfl w2.heap.size W5.heap.size (.agg #[.slice none 0 0, .slice none 0 0]) 48 Try.underlying29 infoLine15 lineZ15 _ E rfl hown6 _ X rfl hx hnz.out hsz5 hlow2.out (by omega) (by omega) ?_ ?_))
          case refine_1 => exact hB6.size
          intro v9 w9 hown9 hg9
          have B9 : Below w2.heap.size w2 w9 := hB6.grown hg9 hB6.size (fun b hb => (hown6.lt b hb).1)
          obtain ⟨a9, c9, rfl⟩ := hown9.shape
          clear hg9 hown6 hx
          go_wp2
          go_roundg (n - (k + 1))
          case measure => have := hgh.out; have := hlt2.out; omega
          case rel => exact ⟨k + 1, E ++ X, a9, _, c9, rfl, by have := hlt2.out; omega, by go_num, rfl, hown9, hE2, B9⟩
      · have hkn : k = B.lines.length := by have := hnn.out; omega
        have hEx := hE.out
        rw [hkn, List.take_length, ← hT2.out] at hEx
        subst hEx
        have hrdO := hown.rd
        have hrdU := hu.out.below hB
        have j2 : ¬ (k : Int) < (n : Int) := by omega
        have hn0 : 0 < B.lines.length := by have := hnn.out; omega
        have hlz := hlw.out.below BW
        replace hkn := hide hkn
        clear hown hE hB
        go_upto_region 16 with (first | (refine wpList_load_row rfl 44 _ rfl _ rfl _ _ _ _ r1 Try.underlying44 rfl (by kernel_rfl) ?_) | fail)
        obtain ⟨W3, hW3⟩ : ∃ W3, W3 = wr.alloc (.cells #[.slice la n lc, .bool B.sys, .int .i64 B.draws, .int .i64 B.addons] 44) := ⟨_, rfl⟩
        obtain ⟨tb, htb⟩ : ∃ tb, tb = wr.heap.size := ⟨_, rfl⟩
        have rt : Row W3 tb 44 [.slice la n lc, .bool B.sys, .int .i64 B.draws, .int .i64 B.addons] := by rw [hW3, htb]; exact Row.newOf _ rfl
        have b3 : Below wr.heap.size wr W3 := by rw [hW3]; exact Bel.al (Below.refl _ _) _
        have z3 : tb + 1 = W3.heap.size := by rw [hW3, htb]; simp
        rw [← hW3, ← htb]
        have hwt : wr.heap.size ≤ tb := by omega
        clear hW3
        replace htb := hide htb
        have hlz3 := hlz.below b3
        have c0 := Bel.cellOf b3 c0
        have r0 := r0.keep b3
        have BW3 := Bel.to BW b3
        obtain ⟨b1, off1, p, q', rfl, hb1, x1, y1, hl0⟩ := hlz3.at_ hn0
        obtain ⟨l0, hl00⟩ : ∃ l0, l0 = B.lines[0] := ⟨_, rfl⟩
        have hm0 := hide (show l0 ∈ B.lines by rw [hl00]; exact List.getElem_mem hn0)
        rw [← hl00] at hl0
        obtain ⟨p1, p2, p3, rfl⟩ := Rd.shape hl0.1
        obtain ⟨q1, q2, q3, rfl⟩ := Rd.shape hl0.2
        clear hl00 hlz BW r1
        have b4 : Below W3.heap.size W3 (W3.alloc (.cells #[] 28)) := Bel.al (Below.refl _ _) _
        have re : OwnLn (W3.alloc (.cells #[] 28)) 0 (.slice (some ⟨W3.heap.size, 0, none⟩) 0 0) [] := OwnLn.empty (Row.newOf _ rfl)
        have z4 : (W3.alloc (.cells #[] 28)).heap.size = W3.heap.size + 1 := by simp
        have hvk : ∀ k, (Value.slice (some ⟨W3.heap.size, 0, none⟩) 0 0).ownBlock = some k → W3.heap.size ≤ k := fun k hk => by
          have h9 : some W3.heap.size = some k := hk
          injection h9 with h9
          omega
        have hne0 : B.lines ≠ [] := by intro e; rw [e] at hn0; simp at hn0
        have n12' : B.lines.length ≤ 12 := by have := hnn.out; omega
        have c04 := Bel.cellOf b4 c0
        go_upto_region 17 with (first | (refine wpList_append_old _ rfl _ _ 29 rfl W3 (.agg #[.slice none 0 0, .slice none 0 0]) 48 Try.underlying29 infoLine15 lineZ15 _ [] rfl re _ B.lines rfl hlz3 b4 hne0 hvk (by rw [List.length_nil]; omega) (by rw [List.length_nil]; omega) ?_) | fail)
        intro v7 w7 hown7 hg7 ho7
        clear c04
        have B37 : Below W3.heap.size W3 w7 := b4.grown hg7 b4.size hvk
        have hlo7 : ∀ b, v7.ownBlock = some b → W3.heap.size ≤ b := by
          intro b hb
          rcases ho7 with h | h
          · rw [h] at hb; exact hvk b hb
          · rw [h] at hb; injection hb with hb; omega
        obtain ⟨a7, c7, rfl⟩ := hown7.shape
        have hl7 := hl0.below B37
        have c0 := Bel.cellOf B37 c0
        have hrange : w7.rangeAt b1 off1 [.slice p1 p2 p3, .slice q1 q2 q3] := by
          intro j v hv
          match j, hv with
          | 0, hv => simp at hv; subst hv; have h9 := Bel.cellOf B37 x1; simpa using h9
          | 1, hv => simp at hv; subst hv; have h9 := Bel.cellOf B37 y1; simpa using h9
        have hfr : ∀ {u : Value} {l : List Int}, Rd I64 W3 u l → Fr 0 u l ∧ Ap u (.slice a7 B.lines.length c7) l := by
          intro u l hr
          by_cases hl : l = []
          · exact ⟨.inl hl, .inl hl⟩
          · obtain ⟨k, hk, hlt⟩ := rd_lt hr hl
            exact ⟨.inr ⟨k, hk, Nat.zero_le _⟩, .inr (fun e => by rw [hk] at e; have := hlo7 k e.symm; omega)⟩
        obtain ⟨f1, g1⟩ := hfr hl0.1
        obtain ⟨f2, g2⟩ := hfr hl0.2
        clear hfr re b4 hg7 ho7 x1 y1 hl0
        go_upto_region 18 with (first | (refine wpList_load_mid rfl 28 _ rfl b1 off1 rfl [.slice p1 p2 p3, .slice q1 q2 q3] _ hrange Try.underlying28 rfl (by kernel_rfl) ?_) | (refine wpList_append_ln _ rfl _ _ 29 rfl 0 (.agg #[.slice none 0 0, .slice none 0 0]) 48 Try.underlying29 infoLine15 lineZ15 _ B.lines rfl ?_ w7.heap.size 1 rfl (.slice p1 p2 p3) (.slice q1 q2 q3) l0.1 l0.2 ?_ ?_ (slice_one15 _ _ _) (slice_one15 _ _ _) ?_ f1 f2 g1 g2 ?_ ?_ ?_ ?_) | fail)
        case refine_1 => exact hown7.keep (Bel.al (Below.refl _ _) _)
        case refine_2 => exact (Row.cell? (Row.new w7 28 [.slice p1 p2 p3, .slice q1 q2 q3]) 0).trans rfl
        case refine_3 => exact (Row.cell? (Row.new w7 28 [.slice p1 p2 p3, .slice q1 q2 q3]) 1).trans rfl
        case refine_4 => exact hl7.below (Bel.al (Below.refl _ _) _)
        case refine_5 => omega
        case refine_6 => omega
        case refine_7 => exact Nat.zero_le _
        intro v9 w9 hown9 hg9
        have B39 : Below W3.heap.size W3 w9 := (B37.alloc B37.size _).grown hg9 (by have := B37.size; simp; omega) (fun b hb => hlo7 b hb)
        have hrt9 : Row w9 tb 44 [.slice (some ⟨b1, off1, none⟩) n lc, .bool B.sys, .int .i64 B.draws, .int .i64 B.addons] := Row.keep rt B39
        have hto : ∀ b, v9.ownBlock = some b → b ≠ tb := own_ne hown9 hrt9 (by decide)
        obtain ⟨a9, c9, rfl⟩ := hown9.shape
        have hlen9 : (B.lines ++ [(l0.1, l0.2)]).length = B.lines.length + 1 := by rw [List.length_append]; rfl
        rw [hlen9] at hown9 hto ⊢
        have k9 : w9.cell? ⟨tb, 0, none⟩ = some (.slice (some ⟨b1, off1, none⟩) n lc) := (hrt9.cell? 0).trans rfl
        have kf := hrt9.frozen 0
        obtain ⟨WF, hWF⟩ : ∃ WF, WF = w9.setCell ⟨tb, 0, none⟩ (.slice a9 (B.lines.length + 1) c9) := ⟨_, rfl⟩
        have hownF : OwnLn WF 0 (.slice a9 (B.lines.length + 1) c9) (B.lines ++ [(l0.1, l0.2)]) := by rw [hWF]; exact hown9.setNe k9 (sl_ne15 _ _ _) hto _
        have rtF : Row WF tb 44 [.slice a9 (B.lines.length + 1) c9, .bool B.sys, .int .i64 B.draws, .int .i64 B.addons] := by rw [hWF]; exact hrt9.set 0 _
        have bF : Below wr.heap.size wr WF := by rw [hWF]; exact ((b3.trans (B39.mono (by omega)))).setCell (p := ⟨tb, 0, none⟩) hwt _
        have rdT := hownF.rd
        have BF : Below w.heap.size w WF := Bel.to (Bel.to B1 hBk) bF
        have cT9 := hide (cT.out WF _ l0 BF rdT hm0.out)
        have r0F := r0k.keep bF
        have cS := hide (lines16_self _ _ _ WF (hrdU.below bF) (hrdO.below bF))
        go_upto_region 19 with (fail)
        first | rw [← hWF] | skip
        clear hWF k9 kf hto hownF hrt9 hown9 hg9 B39 hl7 hown7 B37 c0 r0 rt b3 hlz3
        go_wp2_with (first | (refine wpList_load_row rfl 25 _ rfl _ rfl _ _ _ _ r0F Try.underlying25 rfl (by kernel_rfl) ?_) | (refine wpList_load_row rfl 44 _ rfl _ rfl _ _ _ _ rtF Try.underlying44 rfl (by kernel_rfl) ?_) | fail)
        refine cS.out.mono ?_
        rintro e w10 ⟨rfl, hb10⟩
        have cT10 := hide (cT.out w10 _ l0 (Bel.to BF hb10) (rdT.below hb10) hm0.out)
        have r0F := r0F.keep hb10
        have rtF := Row.keep rtF hb10
        go_wp2_with (first | ((refine wpList_load_row_if ?_ 25 _ rfl _ ?_ _ _ _ r0F Try.underlying25 rfl (by kernel_rfl) ?_); (rfl); (rfl)) | ((refine wpList_load_row_if ?_ 44 _ rfl _ ?_ _ _ _ rtF Try.underlying44 rfl (by kernel_rfl) ?_); (rfl); (rfl)) | fail)
        refine cT10.out.mono ?_
        rintro e w11 ⟨rfl, hb11⟩
        have BZ := Bel.to (Bel.to BF hb10) hb11
        clear cT10 r0F rtF
        go_wp2_with fail
        refine (awake16_any _).mono ?_
        rintro e w12 ⟨rfl, hb12⟩
        go_wp2
        go_ret
        exact ⟨rfl, Bel.to BZ hb12⟩

theorem joins16_any (g : GameD) (av tv : Value) (ms : List AddonM) (lv : Value) (B : BetD) (w : World) (hg : GameR w av tv ms g) (hl : LinesR w lv B.lines) :
    Calls Try.prog 9 #[gameVal g av tv, betVal lv B] w (BoolB true w) := by
  by_cases hn : 12 < B.lines.length
  · exact joins16_long g av tv ms lv B w hg hl hn
  · by_cases he : (betP g B).2 = 0
    · exact joins16_ok g av tv ms lv B w hg hl (by omega) he
    · exact joins16_bad g av tv ms lv B w hg hl (by omega) he
end Go.Proofs.Ytgmbnbdbmkdlgaa
end

section
/- BetJoins: for every input the Go function lotterylaw16.BetJoins returns true, and each argument reads afterwards as before. Conditions: none. -/
namespace Go.Proofs.Ytgmbnbdbmkdlgaa.betJoins
open Go.ChangeShapes Go.WideShapes Go.ChangeAt Go.RowKit
set_option linter.unusedVariables false

theorem own : ownKnob Try.prog.godebug = none := by kernel_rfl
theorem laidOut : laidOutB Try.prog = true := by kernel_rfl

set_option maxRecDepth 100000 in
theorem lifted (os : Os) (started : os.Started) (H : Type) (enc : TypeId × Value → H) :
    ReturnsInHanded {} Try.checked os 9 .any (Rows.betJoinsSpec.pre6 enc Try.prog Try.f9 Rows.betJoinsRow.domain false) (Rows.betJoinsSpec.post enc Try.prog Try.f9 false true false false) := by
  refine returnsInHanded_of_change (C := Try.checked) own started (by kernel_rfl) Try.func9
    (ChangeSpec.witness6 (enc := enc) (C := Try.checked) false ⟨#[], #[.agg #[.string ⟨#[]⟩, .int .i64 0, .int .i64 0, .int .i64 0, .int .i64 0, .int .i64 0, .int .i64 0, .int .i64 0, .int .i64 0, .int .i64 0, .int .i64 0, .int .i64 0, .int .i64 0, .int .i64 0, .int .i64 0, .int .i64 0, .int .i64 0, .int .i64 0, .int .i64 0, .int .i64 0, .slice none 0 0, .slice none 0 0], .agg #[.slice none 0 0, .bool false, .int .i64 0, .int .i64 0]], []⟩ 8 (by kernel_rfl) (by kernel_rfl) (by kernel_rfl) (by kernel_rfl)) ?_
  intro W base args ds gs before hval0 hW hcnd _
  have hval : ∀ (j : Nat) t v, Try.f9.params[j]? = some t → args[j]? = some v → Value.okWide Try.prog W .any base t v := hval0
  have hW' := hW
  obtain ⟨p, q, hA0, hV, rfl, hfz, hnd⟩ := hW
  have hA : DataW.TrodAll enc Try.prog W 0 (fun _ => true) true Try.f9.params.toList args.toList ds p := hA0
  rw [Try.params9] at hA hval
  obtain ⟨v0, vs0, d0, ds0, p0, q0, hargs, rfl, rfl, h0, r0⟩ := trodAll_cons hA
  obtain ⟨v1, vs1, d1, ds1, p1, q1, rfl, rfl, rfl, h1, r1⟩ := trodAll_cons r0
  obtain ⟨rfl, rfl, rfl⟩ := trodAll_nil r1
  obtain rfl : args = #[v0, v1] := by cases args; simp_all
  obtain ⟨rfl, rfl⟩ := trodVars_none hV
  obtain ⟨cs0, rfl, hsz0⟩ := okWide_struct Try.underlying25 (hval 0 25 v0 rfl rfl)
  have k0 := h0
  have lt0 : ∀ x ∈ p0, x.block < W.heap.size := by obtain ⟨m, hm⟩ := k0; exact DataW.trod_lt m _ _ _ hm
  obtain ⟨g0, av0, tv0, ms0, eg0, rg0⟩ := game_trod h0
  rw [eg0] at k0 hW' ⊢
  obtain ⟨cs1, rfl, hsz1⟩ := okWide_struct Try.underlying44 (hval 1 44 v1 rfl rfl)
  have k1 := h1
  have lt1 : ∀ x ∈ p1, x.block < W.heap.size := by obtain ⟨m, hm⟩ := k1; exact DataW.trod_lt m _ _ _ hm
  obtain ⟨lv1, B1, eg1, rg1⟩ := bet_trod h1
  rw [eg1] at k1 hW' ⊢
  clear hA0 hval0
  refine (joins16_any g0 av0 tv0 ms0 lv1 B1 W rg0 rg1).mono fun e W' ⟨he, bel⟩ => ?_
  subst he
  exact ⟨_, rfl, _, _, _, [], _, [], hW', trodAll_mk1 (shut_bool Try.underlying4 _), (trodAll_cons_mk (Below.trod laidOut (by kernel_rfl) (of_decide_eq_true (by kernel_rfl)) k0 bel lt0) (trodAll_cons_mk (Below.trod laidOut (by kernel_rfl) (of_decide_eq_true (by kernel_rfl)) k1 bel lt1) trodAll_mk0)), rfl, bel.frame _, fun h => by cases h⟩

theorem over : Rows.betJoinsRow.holds Try.pinned (OpenSpec.ofChange Rows.betJoinsSpec) :=
  OpenClaim.holds_of_wide 9 Try.f9 rfl rfl rfl rfl rfl rfl rfl ⟨rfl, rfl, rfl, rfl, rfl⟩ rfl rfl rfl rfl rfl (by kernel_rfl) Try.func9 (by kernel_rfl)
    (of_decide_eq_true (by kernel_rfl)) (by unfold Func.isWrapper; first | (rw [if_pos (by decide +kernel)]; kernel_rfl) | (rw [if_neg (by decide +kernel)]; exact ⟨rfl, rfl⟩))
    (fun os started H enc _ => lifted os started H enc)

theorem proved : Rows.BetJoinsSaid := over
#print axioms proved
end Go.Proofs.Ytgmbnbdbmkdlgaa.betJoins
end

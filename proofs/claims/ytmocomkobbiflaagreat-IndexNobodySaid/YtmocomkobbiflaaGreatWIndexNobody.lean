/- IndexNobody: for every input the Go function lotterylaw33.IndexNobody returns true, and each argument reads afterwards as before. Conditions: none. -/
import Derived.BigQuiet
import Derived.Test.YtmocomkobbiflaaGreatRows
import Derived.WalkKit
import Derived.ProofKit
import Derived.OpenShut
import Derived.ChangeOld
import Derived.Below
import Derived.Test.YtmocomkobbiflaaGreatGIdxC
import Derived.Test.YtmocomkobbiflaaGreatGTrod

section
/- lotterylaw33.IndexNobody: the walk. No condition. -/
open Go.RowKit
set_option linter.unusedVariables false
set_option linter.unusedSimpArgs false
namespace Go.Proofs.YtmocomkobbiflaaGreat

/-- A line to be added, as a value. -/
def doVal (d : EntD) (mv bv : Value) : Value := .agg #[.int .i64 d.ticket, .int .i64 d.line, mv, bv]
theorem winsQ_nil (g : GameD) (r : ResD) : winsQ g r [] = [] := by unfold winsQ; split <;> rfl

set_option maxHeartbeats 8000000 in
set_option maxRecDepth 100000 in
theorem nobody33_walk (g : GameD) (av tv : Value) (ms : List AddonM) (d : EntD) (dm db : Value) (mv bv xv : Value) (r : ResD) (w : World) (rg : GameR w av tv ms g) (rd : LineR w dm db d.l.1 d.l.2) (rr : ResR w mv bv xv r) (hs : r.serial.size ≤ 9223372036854775807) :
    Calls Tryz.prog 8 #[gameVal g av tv, doVal d dm db, resVal mv bv xv r] w (BoolB true w) := by
  have cA := hide (fun X => awake33_any X)
  have cW0 := hide (fun X (hX : Below w.heap.size w X) => iwins_nil mv bv xv r X (rr.below hX))
  have cC0 := hide (fun X (hX : Below w.heap.size w X) => icounts_nil mv bv xv r X (rr.below hX))
  have cA0 := hide (fun X => iadd_nil d.ticket d.line dm db X)
  have cL0 := hide (fun X => ilen_nil X)
  have cB := hide (fun X (hX : Below w.heap.size w X) (he : gameE g ≠ 0) => inew_bad g av tv ms X (rg.below hX) he)
  have cN := hide (fun X (hX : Below w.heap.size w X) (he : gameE g = 0) => inew_ok g av tv ms X (rg.below hX) he)
  have rrh := hide rr
  obtain ⟨aa, ac, rfl, hal, ham⟩ := rg.1.1.shape
  obtain ⟨ta, tc, rfl, htl, htm⟩ := rg.2.2.shape
  obtain ⟨an, han⟩ : ∃ an, an = ms.length := ⟨_, rfl⟩
  obtain ⟨tn, htn⟩ : ∃ tn, tn = g.tiers.length := ⟨_, rfl⟩
  rw [← han, ← htn] at cB cN ⊢
  obtain ⟨ma, mn, mc, rfl⟩ := rd.1.shape
  obtain ⟨ba, bn, bc, rfl⟩ := rd.2.shape
  obtain ⟨ra, rn, rc, rfl⟩ := rr.1.shape
  obtain ⟨sa, sn, sc, rfl⟩ := rr.2.1.shape
  obtain ⟨xa, xn, xc, rfl⟩ := rr.2.2.shape
  clear rg rd rr hal ham htl htm han htn
  unfold resVal at cW0 cC0
  unfold lineVal at cA0
  unfold gameVal at cB cN
  unfold gameVal doVal resVal
  by_cases hm : 30 < mn
  · have hm2 : (30 : Int) < (mn : Int) := by omega
    go_enter Tryz.func8, Tryz.ntmps8
    go_upto_region 1 with (fail)
    obtain ⟨W, hW⟩ : ∃ W, W = ((w.alloc (Obj.cells #[.string g.name, .int .i64 g.kind, .int .i64 g.price, .int .i64 g.main, .int .i64 g.of, .int .i64 g.bonus, .int .i64 g.bonusOf, .int .i64 g.extra, .int .i64 g.draws, .int .i64 g.system, .int .i64 g.days, .int .i64 g.at_, .int .i64 g.close, .int .i64 g.cancel, .int .i64 g.expiry, .int .i64 g.pool, .int .i64 g.reserve, .int .i64 g.round, .int .i64 g.cap, .int .i64 g.rolls, (.slice aa an ac), (.slice ta tn tc)] 25)).alloc (Obj.cells #[.int .i64 d.ticket, .int .i64 d.line, .slice ma mn mc, .slice ba bn bc] 43)).alloc (Obj.cells #[.slice ra rn rc, .slice sa sn sc, .slice xa xn xc, .int .i64 r.factor, .string r.serial] 29) := ⟨_, rfl⟩
    have bW : Below w.heap.size w W := by rw [hW]; exact Bel.al (Bel.al (Bel.al (Below.refl _ _) _) _) _
    have r0 : GameAt W w.heap.size g (.slice aa an ac) (.slice ta tn tc) := by rw [hW]; exact Row.alloc (Row.alloc (Row.new _ _ _) _) _
    have r1 : Row W (w.heap.size + 1) 43 [.int .i64 d.ticket, .int .i64 d.line, .slice ma mn mc, .slice ba bn bc] := by rw [hW]; exact Row.alloc (Row.at2 _ _ _ _) _
    have r2 : Row W (w.heap.size + 1 + 1) 29 [.slice ra rn rc, .slice sa sn sc, .slice xa xn xc, .int .i64 r.factor, .string r.serial] := by rw [hW]; exact Row.at3 _ _ _ _ _
    rw [← hW]
    clear hW
    have d2 : W.cell? ⟨w.heap.size + 1, 2, none⟩ = some (.slice ma mn mc) := (r1.cell? 2).trans rfl
    have d3 : W.cell? ⟨w.heap.size + 1, 3, none⟩ = some (.slice ba bn bc) := (r1.cell? 3).trans rfl

    go_wp2_with fail
    refine (cA.out _).mono ?_
    rintro e w1 ⟨rfl, hb⟩
    go_wp2
    go_ret
    exact ⟨rfl, Bel.to bW hb⟩
  by_cases hn : 30 < bn
  · have hm2 : ¬ (30 : Int) < (mn : Int) := by omega
    have hn2 : (30 : Int) < (bn : Int) := by omega
    go_enter Tryz.func8, Tryz.ntmps8
    go_upto_region 1 with (fail)
    obtain ⟨W, hW⟩ : ∃ W, W = ((w.alloc (Obj.cells #[.string g.name, .int .i64 g.kind, .int .i64 g.price, .int .i64 g.main, .int .i64 g.of, .int .i64 g.bonus, .int .i64 g.bonusOf, .int .i64 g.extra, .int .i64 g.draws, .int .i64 g.system, .int .i64 g.days, .int .i64 g.at_, .int .i64 g.close, .int .i64 g.cancel, .int .i64 g.expiry, .int .i64 g.pool, .int .i64 g.reserve, .int .i64 g.round, .int .i64 g.cap, .int .i64 g.rolls, (.slice aa an ac), (.slice ta tn tc)] 25)).alloc (Obj.cells #[.int .i64 d.ticket, .int .i64 d.line, .slice ma mn mc, .slice ba bn bc] 43)).alloc (Obj.cells #[.slice ra rn rc, .slice sa sn sc, .slice xa xn xc, .int .i64 r.factor, .string r.serial] 29) := ⟨_, rfl⟩
    have bW : Below w.heap.size w W := by rw [hW]; exact Bel.al (Bel.al (Bel.al (Below.refl _ _) _) _) _
    have r0 : GameAt W w.heap.size g (.slice aa an ac) (.slice ta tn tc) := by rw [hW]; exact Row.alloc (Row.alloc (Row.new _ _ _) _) _
    have r1 : Row W (w.heap.size + 1) 43 [.int .i64 d.ticket, .int .i64 d.line, .slice ma mn mc, .slice ba bn bc] := by rw [hW]; exact Row.alloc (Row.at2 _ _ _ _) _
    have r2 : Row W (w.heap.size + 1 + 1) 29 [.slice ra rn rc, .slice sa sn sc, .slice xa xn xc, .int .i64 r.factor, .string r.serial] := by rw [hW]; exact Row.at3 _ _ _ _ _
    rw [← hW]
    clear hW
    have d2 : W.cell? ⟨w.heap.size + 1, 2, none⟩ = some (.slice ma mn mc) := (r1.cell? 2).trans rfl
    have d3 : W.cell? ⟨w.heap.size + 1, 3, none⟩ = some (.slice ba bn bc) := (r1.cell? 3).trans rfl

    go_wp2_with fail
    refine (cA.out _).mono ?_
    rintro e w1 ⟨rfl, hb⟩
    go_wp2
    go_ret
    exact ⟨rfl, Bel.to bW hb⟩
  have hm2 : ¬ (30 : Int) < (mn : Int) := by omega
  have hn2 : ¬ (30 : Int) < (bn : Int) := by omega
  clear hm hn
  go_enter Tryz.func8, Tryz.ntmps8
  go_upto_region 1 with (fail)
  obtain ⟨W, hW⟩ : ∃ W, W = ((w.alloc (Obj.cells #[.string g.name, .int .i64 g.kind, .int .i64 g.price, .int .i64 g.main, .int .i64 g.of, .int .i64 g.bonus, .int .i64 g.bonusOf, .int .i64 g.extra, .int .i64 g.draws, .int .i64 g.system, .int .i64 g.days, .int .i64 g.at_, .int .i64 g.close, .int .i64 g.cancel, .int .i64 g.expiry, .int .i64 g.pool, .int .i64 g.reserve, .int .i64 g.round, .int .i64 g.cap, .int .i64 g.rolls, (.slice aa an ac), (.slice ta tn tc)] 25)).alloc (Obj.cells #[.int .i64 d.ticket, .int .i64 d.line, .slice ma mn mc, .slice ba bn bc] 43)).alloc (Obj.cells #[.slice ra rn rc, .slice sa sn sc, .slice xa xn xc, .int .i64 r.factor, .string r.serial] 29) := ⟨_, rfl⟩
  have bW : Below w.heap.size w W := by rw [hW]; exact Bel.al (Bel.al (Bel.al (Below.refl _ _) _) _) _
  have r0 : GameAt W w.heap.size g (.slice aa an ac) (.slice ta tn tc) := by rw [hW]; exact Row.alloc (Row.alloc (Row.new _ _ _) _) _
  have r1 : Row W (w.heap.size + 1) 43 [.int .i64 d.ticket, .int .i64 d.line, .slice ma mn mc, .slice ba bn bc] := by rw [hW]; exact Row.alloc (Row.at2 _ _ _ _) _
  have r2 : Row W (w.heap.size + 1 + 1) 29 [.slice ra rn rc, .slice sa sn sc, .slice xa xn xc, .int .i64 r.factor, .string r.serial] := by rw [hW]; exact Row.at3 _ _ _ _ _
  rw [← hW]
  clear hW
  have d2 : W.cell? ⟨w.heap.size + 1, 2, none⟩ = some (.slice ma mn mc) := (r1.cell? 2).trans rfl
  have d3 : W.cell? ⟨w.heap.size + 1, 3, none⟩ = some (.slice ba bn bc) := (r1.cell? 3).trans rfl

  go_upto_region 5 with (first | (refine wpList_load_row rfl 29 _ rfl _ rfl _ _ _ _ r2 Tryz.underlying29 rfl (by kernel_rfl) ?_) | (go_at_call 18; (refine (cW0.out _ bW).mono ?_); rintro e w1 ⟨v1, rfl, o1, b1⟩; obtain ⟨p1, q1, rfl⟩ := OwnS.shape o1) | fail)
  clear d2 d3 o1
  have r0 := r0.keep b1
  have r1 := Row.keep r1 b1
  have r2 := Row.keep r2 b1
  have bW := Bel.to bW b1
  clear b1
  go_upto_region 6 with (first | (refine wpList_load_row rfl 29 _ rfl _ rfl _ _ _ _ r2 Tryz.underlying29 rfl (by kernel_rfl) ?_) | (go_at_call 20; (refine (cC0.out _ bW).mono ?_); rintro e w2 ⟨v2, rfl, o2, b2⟩; obtain ⟨p2, q2, rfl, -, -, -⟩ := o2.form) | fail)
  clear o2
  have r0 := r0.keep b2
  have r1 := Row.keep r1 b2
  have r2 := Row.keep r2 b2
  have bW := Bel.to bW b2
  clear b2
  have e0 : w2.cell? ⟨w.heap.size + 1, 0, none⟩ = some (.int .i64 d.ticket) := (r1.cell? 0).trans rfl
  have e1 : w2.cell? ⟨w.heap.size + 1, 1, none⟩ = some (.int .i64 d.line) := (r1.cell? 1).trans rfl
  have e2 : w2.cell? ⟨w.heap.size + 1, 2, none⟩ = some (.slice ma mn mc) := (r1.cell? 2).trans rfl
  have e3 : w2.cell? ⟨w.heap.size + 1, 3, none⟩ = some (.slice ba bn bc) := (r1.cell? 3).trans rfl
  have rg3 : w2.rangeAt (w.heap.size + 1) 2 [.slice ma mn mc, .slice ba bn bc] := fun j u hu => by
    match j, hu with
    | 0, hu => simp at hu; subst hu; exact e2
    | 1, hu => simp at hu; subst hu; exact e3
  go_wp2_with (first | (refine wpList_load_mid rfl 41 _ rfl (w.heap.size + 1) 2 rfl [.slice ma mn mc, .slice ba bn bc] _ rg3 Tryz.underlying41 rfl (by kernel_rfl) ?_) | fail)
  refine (cA0.out _).mono ?_
  rintro e w3 ⟨rfl, b3⟩
  clear e0 e1 e2 e3 rg3
  have r0 := r0.keep b3
  have r2 := Row.keep r2 b3
  have bW := Bel.to bW b3
  clear b3 r1
  go_wp2_with fail
  refine (cL0.out _).mono ?_
  rintro e w4 ⟨rfl, rfl⟩
  by_cases hg : gameE g = 0
  · go_wp2_with (first | (refine wpList_load_row rfl 25 _ rfl _ rfl _ _ _ _ r0 Tryz.underlying25 rfl (by kernel_rfl) ?_) | fail)
    refine (cN.out _ bW hg).mono ?_
    intro e w5 hN
    obtain ⟨ib, col, rfl, hI, b5, -⟩ := NewO.idxB (w := w) hg bW hN
    have r2 := Row.keep r2 b5
    have cW := hide (iwins_any ib col g [] _ _ _ r w5 hI.1 (rrh.out.below hI.bel) hs (by simp))
    rw [winsQ_nil] at cW
    obtain ⟨c, hc⟩ : ∃ c, c = resE g r := ⟨_, rfl⟩
    rw [← hc] at cW
    unfold resVal at cW
    clear hN bW b5 r0 hc
    go_wp2_with (first | (refine wpList_load_row rfl 29 _ rfl _ rfl _ _ _ _ r2 Tryz.underlying29 rfl (by kernel_rfl) ?_) | fail)
    refine cW.out.mono ?_
    rintro e w6 ⟨v6, rfl, o6, b6⟩
    obtain ⟨p6, q6, rfl⟩ := OwnS.shape o6
    have hI := hI.below b6
    have cL := hide (ilen_any ib col g [] w6 hI.1)
    clear o6 r2 b6 cW
    go_wp2_with fail
    refine cL.out.mono ?_
    rintro e w7 ⟨rfl, rfl⟩
    go_wp2_with fail
    refine (cA.out _).mono ?_
    rintro e w8 ⟨rfl, hb⟩
    go_wp2
    go_ret
    exact ⟨rfl, Bel.to hI.bel hb⟩
  · have cB2 := hide (cB.out _ bW hg)
    obtain ⟨c, hc⟩ : ∃ c, c = gameE g := ⟨_, rfl⟩
    rw [← hc] at cB2
    clear hc hg
    go_wp2_with (first | (refine wpList_load_row rfl 25 _ rfl _ rfl _ _ _ _ r0 Tryz.underlying25 rfl (by kernel_rfl) ?_) | fail)
    refine cB2.out.mono ?_
    rintro e w5 ⟨rfl, b5⟩
    clear r2 r0 cB2
    go_wp2_with fail
    refine (cA.out _).mono ?_
    rintro e w6 ⟨rfl, hb⟩
    go_wp2
    go_ret
    exact ⟨rfl, Bel.to bW (Bel.to b5 hb)⟩
end Go.Proofs.YtmocomkobbiflaaGreat
end

section
/- IndexNobody: for every input the Go function lotterylaw33.IndexNobody returns true, and each argument reads afterwards as before. Conditions: none. -/
namespace Go.Proofs.YtmocomkobbiflaaGreat.indexNobody
open Go.ChangeShapes Go.WideShapes Go.ChangeAt Go.RowKit
set_option linter.unusedVariables false

theorem own : ownKnob Tryz.prog.godebug = none := by kernel_rfl
theorem laidOut : laidOutB Tryz.prog = true := by kernel_rfl

set_option maxRecDepth 100000 in
theorem lifted (os : Os) (started : os.Started) (H : Type) (enc : TypeId × Value → H) :
    ReturnsInHanded {} Tryz.checked os 8 .any (Rows.indexNobodySpec.pre6 enc Tryz.prog Tryz.f8 Rows.indexNobodyRow.domain false) (Rows.indexNobodySpec.post enc Tryz.prog Tryz.f8 false true false false) := by
  refine returnsInHanded_of_change (C := Tryz.checked) own started (by kernel_rfl) Tryz.func8
    (ChangeSpec.witness6 (enc := enc) (C := Tryz.checked) false ⟨#[], #[.agg #[.string ⟨#[]⟩, .int .i64 0, .int .i64 0, .int .i64 0, .int .i64 0, .int .i64 0, .int .i64 0, .int .i64 0, .int .i64 0, .int .i64 0, .int .i64 0, .int .i64 0, .int .i64 0, .int .i64 0, .int .i64 0, .int .i64 0, .int .i64 0, .int .i64 0, .int .i64 0, .int .i64 0, .slice none 0 0, .slice none 0 0], .agg #[.int .i64 0, .int .i64 0, .slice none 0 0, .slice none 0 0], .agg #[.slice none 0 0, .slice none 0 0, .slice none 0 0, .int .i64 0, .string ⟨#[]⟩]], []⟩ 8 (by kernel_rfl) (by kernel_rfl) (by kernel_rfl) (by kernel_rfl)) ?_
  intro W base args ds gs before hval0 hW hcnd _
  have hval : ∀ (j : Nat) t v, Tryz.f8.params[j]? = some t → args[j]? = some v → Value.okWide Tryz.prog W .any base t v := hval0
  have hW' := hW
  obtain ⟨p, q, hA0, hV, rfl, hfz, hnd⟩ := hW
  have hA : DataW.TrodAll enc Tryz.prog W 0 (fun _ => true) true Tryz.f8.params.toList args.toList ds p := hA0
  rw [Tryz.params8] at hA hval
  obtain ⟨v0, vs0, d0, ds0, p0, q0, hargs, rfl, rfl, h0, r0⟩ := trodAll_cons hA
  obtain ⟨v1, vs1, d1, ds1, p1, q1, rfl, rfl, rfl, h1, r1⟩ := trodAll_cons r0
  obtain ⟨v2, vs2, d2, ds2, p2, q2, rfl, rfl, rfl, h2, r2⟩ := trodAll_cons r1
  obtain ⟨rfl, rfl, rfl⟩ := trodAll_nil r2
  obtain rfl : args = #[v0, v1, v2] := by cases args; simp_all
  obtain ⟨rfl, rfl⟩ := trodVars_none hV
  obtain ⟨cs0, rfl, hsz0⟩ := okWide_struct Tryz.underlying25 (hval 0 25 v0 rfl rfl)
  have k0 := h0
  have lt0 : ∀ x ∈ p0, x.block < W.heap.size := by obtain ⟨m, hm⟩ := k0; exact DataW.trod_lt m _ _ _ hm
  obtain ⟨g0, av0, tv0, ms0, eg0, rg0⟩ := game_trod h0
  rw [eg0] at k0 hW' ⊢
  obtain ⟨cs1, rfl, hsz1⟩ := okWide_struct Tryz.underlying43 (hval 1 43 v1 rfl rfl)
  have k1 := h1
  have lt1 : ∀ x ∈ p1, x.block < W.heap.size := by obtain ⟨m, hm⟩ := k1; exact DataW.trod_lt m _ _ _ hm
  obtain ⟨dd1, du1, dv1, eg1, rg1⟩ := doI_open h1
  rw [eg1] at k1 hW' ⊢
  obtain ⟨cs2, rfl, hsz2⟩ := okWide_struct Tryz.underlying29 (hval 2 29 v2 rfl rfl)
  have k2 := h2
  have lt2 : ∀ x ∈ p2, x.block < W.heap.size := by obtain ⟨m, hm⟩ := k2; exact DataW.trod_lt m _ _ _ hm
  obtain ⟨dm2, db2, dx2, dr2, eg2, rg2, sz2⟩ := resI_open h2
  rw [eg2] at k2 hW' ⊢
  clear hA0 hval0
  refine (nobody33_walk g0 av0 tv0 ms0 dd1 du1 dv1 dm2 db2 dx2 dr2 W rg0 rg1 rg2 sz2).mono fun e W' ⟨he, bel⟩ => ?_
  subst he
  exact ⟨_, rfl, _, _, _, [], _, [], hW', trodAll_mk1 (shut_bool Tryz.underlying4 _), (trodAll_cons_mk (Below.trod laidOut (by kernel_rfl) (of_decide_eq_true (by kernel_rfl)) k0 bel lt0) (trodAll_cons_mk (Below.trod laidOut (by kernel_rfl) (of_decide_eq_true (by kernel_rfl)) k1 bel lt1) (trodAll_cons_mk (Below.trod laidOut (by kernel_rfl) (of_decide_eq_true (by kernel_rfl)) k2 bel lt2) trodAll_mk0))), rfl, bel.frame _, fun h => by cases h⟩

theorem over : Rows.indexNobodyRow.holds Tryz.pinned (OpenSpec.ofChange Rows.indexNobodySpec) :=
  OpenClaim.holds_of_wide 8 Tryz.f8 rfl rfl rfl rfl rfl rfl rfl ⟨rfl, rfl, rfl, rfl, rfl⟩ rfl rfl rfl rfl rfl (by kernel_rfl) Tryz.func8 (by kernel_rfl)
    (of_decide_eq_true (by kernel_rfl)) (by unfold Func.isWrapper; first | (rw [if_pos (by decide +kernel)]; kernel_rfl) | (rw [if_neg (by decide +kernel)]; exact ⟨rfl, rfl⟩))
    (fun os started H enc _ => lifted os started H enc)

theorem proved : Rows.IndexNobodySaid := over
#print axioms proved
end Go.Proofs.YtmocomkobbiflaaGreat.indexNobody
end

/- rulecheck.checkAddons. -/
import Derived.Test.YtlppomkpmnpmcaaGreatRuleAddon
import Derived.Test.YtlppomkpmnpmcaaGreatMapB
import Derived.Deep.MidRow
import Derived.Deep.DeepCutAuto
import Derived.Deep.RegionHeld3
open Go.RowKit
set_option linter.unusedVariables false
set_option linter.unusedSimpArgs false
namespace Go.Proofs.YtlppomkpmnpmcaaGreat
open Go.Maps (Keyed string_keyed int_keyed)

theorem zeroBool (w : World) : (zeroValue 4).run Tryz.prog w = .ok (.bool false) w := by kernel_rfl

def nameLit (a : AddonD) : Lit := .string a.name.data.toList
def kindLit (a : AddonD) : Lit := .int .i64 a.kind

theorem addonsGo_step {l : List AddonD} {i : Nat} {a : AddonD} (h : l[i]? = some a) : addonsGo (l.take i) (l.drop i) = if addonE a ≠ 0 then addonE a else if (l.take i).any (fun s => decide (s.name = a.name) || decide (s.kind = a.kind)) then 6 else addonsGo (l.take (i + 1)) (l.drop (i + 1)) := by
  have h1 : l.drop i = a :: l.drop (i + 1) := by
    obtain ⟨hi, h⟩ := List.getElem?_eq_some_iff.1 h
    rw [List.drop_eq_getElem_cons hi, h]
  have h2 : l.take (i + 1) = l.take i ++ [a] := by rw [List.take_add_one, h]; rfl
  rw [h1, h2]
  rfl

theorem take_snoc? {α : Type} {l : List α} {i : Nat} {a : α} (h : l[i]? = some a) : l.take (i + 1) = l.take i ++ [a] := by rw [List.take_add_one, h]; rfl

theorem nameLit_same (a b : AddonD) : (nameLit a).sameKey (nameLit b) = decide (a.name = b.name) := by
  obtain ⟨⟨⟨x⟩⟩, _⟩ := a
  obtain ⟨⟨⟨y⟩⟩, _⟩ := b
  show (x == y) = _
  by_cases h : x = y
  · subst h; simp
  · rw [decide_eq_false (by simpa using h)]
    simpa using h

theorem kindLit_same (a b : AddonD) : (kindLit a).sameKey (kindLit b) = decide (a.kind = b.kind) := by
  show decide (IntKind.i64 = IntKind.i64 ∧ a.kind = b.kind) = _
  simp

theorem any_two {l : List AddonD} (a : AddonD) : l.any (fun s => decide (s.name = a.name) || decide (s.kind = a.kind)) = ((l.map nameLit).any (fun y => y.sameKey (nameLit a)) || (l.map kindLit).any (fun y => y.sameKey (kindLit a))) := by
  induction l with
  | nil => rfl
  | cons x r ih =>
    simp only [List.any_cons, List.map_cons, nameLit_same, kindLit_same] at ih ⊢
    rw [ih]
    cases decide (x.name = a.name) <;> cases decide (x.kind = a.kind) <;> simp

theorem addonsGo_end {l : List AddonD} {i : Nat} (hi : ¬ i < l.length) : addonsGo (l.take i) (l.drop i) = 0 := by
  rw [List.drop_of_length_le (by omega)]
  rfl


theorem below_setCells {B : Nat} {w W : World} {b o : Nat} {cs : List Value} (h : Below B w W) (hb : B ≤ b) : Below B w (W.setCells b o cs) := by
  induction cs generalizing o W with
  | nil => exact h
  | cons v r ih => exact ih (h.setCell hb v)

theorem Row.there {w : World} {g : Nat} {t : TypeId} {cs : List Value} (h : Row w g t cs) : w.there g 0 cs.length := fun j hj => by
  rw [Nat.zero_add]
  exact ⟨by rw [h.cell hj]; rfl, h.frozen j⟩

theorem grown_cell {w w' : World} {row : Option Nat} (hg : w.grownBy w' row) {b o : Nat} {v : Value} (h : w.cell? ⟨b, o, none⟩ = some v) (hne : some b ≠ row) : w'.cell? ⟨b, o, none⟩ = some v := by
  rw [← h]
  exact World.cell?_of_block (hg.block b (World.block_lt_of_cell? w _ h) hne)

theorem any_take_no {α : Type} {l : List α} {p : α → Bool} {i : Nat} (h : ∀ j x, j < i → l[j]? = some x → p x = false) : (l.take i).any p = false := by
  rw [List.any_eq_false]
  intro x hx
  obtain ⟨j, hj, rfl⟩ := List.getElem_of_mem hx
  rw [List.length_take] at hj
  have := h j _ (by omega) (List.getElem?_eq_getElem (show j < l.length by omega))
  rw [List.getElem_take]
  rw [this]
  simp

theorem any_take_yes {α : Type} {l : List α} {p : α → Bool} {i j : Nat} {x : α} (hj : j < i) (hx : l[j]? = some x) (h : p x = true) : (l.take i).any p = true := by
  rw [List.any_eq_true]
  obtain ⟨hl, e⟩ := List.getElem?_eq_some_iff.1 hx
  refine ⟨x, ?_, h⟩
  rw [← e, List.mem_take_iff_getElem]
  exact ⟨j, by omega, rfl⟩

theorem string_isKey (s : List UInt8) : WideAt.IsKeyLit (.string s) := by trivial
theorem int_isKey (x : Int) : WideAt.IsKeyLit (.int .i64 x) := by trivial

set_option maxHeartbeats 1000000 in
set_option maxRecDepth 100000 in
theorem checkAddons_any (v : Value) (ms : List AddonM) (w : World) (h : AddonsR w v ms) :
    Calls Tryz.prog 42 #[v] w (IntB (addonsE (ms.map (·.d))) w) := by
  obtain ⟨l, hl⟩ : ∃ l, l = ms.map (·.d) := ⟨_, rfl⟩
  have hlen : l.length = ms.length := by rw [hl]; simp
  rw [← hl]
  obtain ⟨ao, cap, rfl, hle, hmax⟩ := h.1.shape
  unfold addonsE
  by_cases h4 : 4 < l.length
  · rw [if_pos h4]
    have h4' : 4 < ms.length := by omega
    clear h4 hl hlen h
    go_enter Tryz.func42, Tryz.ntmps42
    go_wp2
    go_ret
    exact ⟨rfl, Below.refl _ _⟩
  · rw [if_neg h4]
    have h4' : ms.length ≤ 4 := by omega
    have hl' := hide hl
    clear hl
    replace hlen := hide hlen
    have hmm := @run_makeMap Tryz.prog
    go_enter Tryz.func42, Tryz.ntmps42
    go_wp2
    have hset1 := (SetIs.made Tryz.prog 9 4 w).alloc (.map #[] 0)
    have hset2 := SetIs.made Tryz.prog 3 4 (w.alloc (.map #[] 0))
    rw [alloc_size] at hset2
    have hbel : Below w.heap.size w ((w.alloc (.map #[] 0)).alloc (.map #[] 0)) := Bel.al (Bel.al (Below.refl _ _) _) _
    clear hmm
    have hh := hide h
    clear h
    obtain ⟨W, hW⟩ : ∃ W, W = (w.alloc (.map #[] 0)).alloc (.map #[] 0) := ⟨_, rfl⟩
    rw [← hW] at hset1 hset2 hbel ⊢
    clear hW
    go_loopg [15] ms.length (fun g t wr => ∃ i : Nat, g = ms.length - i ∧ i ≤ ms.length ∧ t = .int .i64 i ∧ Below w.heap.size w wr ∧ SetIs Tryz.prog 9 4 wr w.heap.size i ((l.take i).map nameLit) ∧ SetIs Tryz.prog 3 4 wr (w.heap.size + 1) i ((l.take i).map kindLit) ∧ addonsGo (l.take i) (l.drop i) = addonsGo [] l)
    case atStart => exact ⟨0, rfl, Nat.zero_le _, rfl, hbel, hset1, hset2, rfl⟩
    case round =>
      clear hset1 hset2 hbel
      obtain ⟨i, hg, hi, rfl, hbel, hset1, hset2, hgo⟩ := hrel
      replace hg := hide hg
      replace hgo := hide hgo
      replace hset1 := hide hset1
      replace hset2 := hide hset2
      by_cases hlt : i < ms.length
      · have hlt2 := hide hlt
        have i1 : (0 : Int) ≤ (i : Int) := by omega
        have i2 : (i : Int) < (ms.length : Int) := by omega
        have hA := hh.out.below hbel
        obtain ⟨b, off, rfl, hbb, hcell⟩ := hA.1.at_ hlt
        obtain ⟨m, hm⟩ : ∃ m, ms[i]? = some m := ⟨_, List.getElem?_eq_getElem hlt⟩
        have hrange : wr.rangeAt b (off + i * 6) (AddonM.cells m) := fun j u hu => hcell i m hm j u hu
        have hAd := hA.2 i m hm
        clear hcell
        have hlm : l[i]? = some m.d := by rw [hl'.out, List.getElem?_map, hm]; rfl
        have hstep := addonsGo_step hlm
        have htake := take_snoc? hlm
        rw [any_two] at hstep
        clear hm hlm
        replace hstep := hide hstep
        replace htake := hide htake
        obtain ⟨⟨aname, akind, aprice, afactors, adigits, aprizes⟩, fv, pv⟩ := m
        unfold AddonM.cells at hrange
        obtain ⟨hf, hp⟩ := hAd
        simp only [] at hrange hf hp
        obtain ⟨fa, fn, fc, rfl⟩ := Rd.shape hf
        obtain ⟨pa, pn, pc, rfl⟩ := Rd.shape hp
        have hAd : AddonR wr ⟨⟨aname, akind, aprice, afactors, adigits, aprizes⟩, .slice fa fn fc, .slice pa pn pc⟩ := ⟨hf, hp⟩
        clear hf hp hA
        have hthere : (wr.alloc (.cells #[.string ⟨#[]⟩, .int .i64 0, .int .i64 0, .slice none 0 0, .int .i64 0, .slice none 0 0] 92)).there wr.heap.size 0 6 := Row.there (Row.newOf (cs := [.string ⟨#[]⟩, .int .i64 0, .int .i64 0, .slice none 0 0, .int .i64 0, .slice none 0 0]) _ rfl)
        replace hthere := hide hthere
        go_upto_region 7 with (first | (refine wpList_load_mid rfl 92 _ rfl b (off + i * 6) rfl [.string aname, .int .i64 akind, .int .i64 aprice, .slice fa fn fc, .int .i64 adigits, .slice pa pn pc] _ hrange Tryz.underlying92 rfl (by kernel_rfl) ?_) | (refine wpList_store_mid rfl 92 _ _ rfl wr.heap.size 0 _ rfl rfl hthere.out (by kernel_rfl) (by rfl) ?_) | fail)
        obtain ⟨W1, hW1⟩ : ∃ W1, W1 = wr.alloc (.cells #[.string aname, .int .i64 akind, .int .i64 aprice, .slice fa fn fc, .int .i64 adigits, .slice pa pn pc] 92) := ⟨_, rfl⟩
        have hb1 : Below wr.heap.size wr W1 := by rw [hW1]; exact Bel.al (Below.refl _ _) _
        have hw1 : Row W1 wr.heap.size 92 [.string aname, .int .i64 akind, .int .i64 aprice, .slice fa fn fc, .int .i64 adigits, .slice pa pn pc] := by rw [hW1]; exact Row.newOf _ rfl
        have hr1 : W1.rangeAt wr.heap.size 0 [.string aname, .int .i64 akind, .int .i64 aprice, .slice fa fn fc, .int .i64 adigits, .slice pa pn pc] := fun j v hv => by rw [Nat.zero_add]; exact (hw1.cell? j).trans hv
        rw [← hW1]
        clear hW1 hthere hrange hw1
        go_wp2_with (first | (refine wpList_load_mid rfl 92 _ rfl wr.heap.size 0 rfl [.string aname, .int .i64 akind, .int .i64 aprice, .slice fa fn fc, .int .i64 adigits, .slice pa pn pc] _ hr1 Tryz.underlying92 rfl (by kernel_rfl) ?_) | fail)
        refine (checkAddon_any ⟨⟨aname, akind, aprice, afactors, adigits, aprizes⟩, .slice fa fn fc, .slice pa pn pc⟩ _ (hAd.below hb1)).mono ?_
        rintro e w2 ⟨rfl, hb2⟩
        have hb12 : Below wr.heap.size wr w2 := Bel.to hb1 hb2
        have hbw : Below w.heap.size w w2 := Bel.to hbel hb12
        have k0 : w2.cell? ⟨wr.heap.size, 0, none⟩ = some (.string aname) := Bel.cellOf hb2 (hr1 0 _ rfl)
        have k1 : w2.cell? ⟨wr.heap.size, 1, none⟩ = some (.int .i64 akind) := Bel.cellOf hb2 (hr1 1 _ rfl)
        obtain ⟨c, hc⟩ : ∃ c, c = addonE ⟨aname, akind, aprice, afactors, adigits, aprizes⟩ := ⟨_, rfl⟩
        have hstep1 := hstep.out
        rw [hgo.out, ← hc] at hstep1
        (try simp only [])
        rw [← hc]
        by_cases hc0 : c = 0
        · have hname : nameB aname = true := by
            rw [hc0] at hc
            unfold addonE at hc
            simp only [] at hc
            cases hn : nameB aname with
            | true => rfl
            | false => rw [hn, if_pos rfl] at hc; omega
          have hkd : akind = 1 ∨ akind = 2 := by
            rw [hc0] at hc
            unfold addonE at hc
            simp only [hname] at hc
            by_cases h1 : akind = 1
            · exact .inl h1
            · by_cases h2 : akind = 2
              · exact .inr h2
              · rw [if_neg (by simp), if_pos ⟨h1, h2⟩] at hc; omega
          have hwf : (Lit.int .i64 akind).wf = true := by rcases hkd with h | h <;> subst h <;> decide
          have hsz : aname.size ≤ maxLen := by have := name_size hname; unfold maxLen; omega
          rw [hc0, if_neg (by simp)] at hstep1
          have hlt3 := hset2.out.lt
          have hs1 := hset1.out.below hb12
          have hs2 := hset2.out.below hb12
          have hkey1 : keyOf Tryz.prog 9 (.string aname) = some (.string aname.data.toList) := Go.WideMaps.keyOf_string_mk Tryz.underlying9 hsz
          have hkey2 : keyOf Tryz.prog 3 (.int .i64 akind) = some (.int .i64 akind) := Go.Maps.keyOf_int_mk Tryz.underlying3 hwf
          have look1 := hs1.look (string_keyed Tryz.underlying9) Tryz.underlying89 Tryz.underlying4 (zeroBool w2) hkey1 (string_isKey _)
          have look2 := hs2.look (int_keyed Tryz.underlying3) Tryz.underlying90 Tryz.underlying4 (zeroBool w2) hkey2 (int_isKey _)
          obtain ⟨q1, hq1⟩ : ∃ q, q = ((l.take i).map nameLit).any (fun y => y.sameKey (.string aname.data.toList)) := ⟨_, rfl⟩
          obtain ⟨q2, hq2⟩ : ∃ q, q = ((l.take i).map kindLit).any (fun y => y.sameKey (.int .i64 akind)) := ⟨_, rfl⟩
          rw [← hq1] at look1
          rw [← hq2] at look2
          have hstep2 : addonsGo [] l = if (q1 || q2) = true then 6 else addonsGo (l.take (i + 1)) (l.drop (i + 1)) := by rw [hstep1, hq1, hq2]; rfl
          clear hstep1 hset1 hset2 hc hname hkd hwf
          replace hstep2 := hide hstep2
          replace hs1 := hide hs1
          replace hs2 := hide hs2
          replace hkey1 := hide hkey1
          replace hkey2 := hide hkey2
          replace hq1 := hide hq1
          replace hq2 := hide hq2
          replace hsz := hide hsz
          subst hc0
          cases q1
          · cases q2
            · go_wp2_with fail
              refine wp_region_held_drew (S := fun X => X.cell? ⟨wr.heap.size, 0, none⟩ = some (.string aname) ∧ X.cell? ⟨wr.heap.size, 1, none⟩ = some (.int .i64 akind)) (by kernel_rfl) ⟨k0, k1⟩ (fun hHeld => ?_)
              refine' wpAnyH_take (i := 0) (oi := _) (v := .map (some w.heap.size)) rfl (by kernel_rfl) (by kernel_rfl) (by kernel_rfl) (fun _ _ _ h => h) (Or.inl ⟨by rfl, fun X hX => by go_simp⟩) hHeld ?_
              try simp only [Act.put, List.setIfInBounds_toArray, List.set_cons_zero, List.set_cons_succ, List.getElem_toArray, List.getElem_cons_zero, List.getElem_cons_succ]
              refine' wpAnyH_take (i := 1) (oi := _) (v := .pointer (some ⟨wr.heap.size, 0, none⟩)) rfl (by kernel_rfl) (by kernel_rfl) (by kernel_rfl) (fun _ _ _ h => h) (Or.inl ⟨by rfl, fun X hX => by go_simp⟩) hHeld ?_
              try simp only [Act.put, List.setIfInBounds_toArray, List.set_cons_zero, List.set_cons_succ, List.getElem_toArray, List.getElem_cons_zero, List.getElem_cons_succ]
              refine' wpAnyH_take (i := 2) (oi := _) (v := .string aname) rfl (by kernel_rfl) (by kernel_rfl) (by kernel_rfl) (fun _ _ _ h => h) (Or.inl ⟨by rfl, fun X hX => by (have hX1 := hX.1; go_simp)⟩) hHeld ?_
              try simp only [Act.put, List.setIfInBounds_toArray, List.set_cons_zero, List.set_cons_succ, List.getElem_toArray, List.getElem_cons_zero, List.getElem_cons_succ]
              refine' wpAnyH_take (i := 3) (oi := _) (v := .map (some (w.heap.size + 1))) rfl (by kernel_rfl) (by kernel_rfl) (by kernel_rfl) (fun _ _ _ h => h) (Or.inl ⟨by rfl, fun X hX => by go_simp⟩) hHeld ?_
              try simp only [Act.put, List.setIfInBounds_toArray, List.set_cons_zero, List.set_cons_succ, List.getElem_toArray, List.getElem_cons_zero, List.getElem_cons_succ]
              refine' wpAnyH_take (i := 4) (oi := _) (v := .pointer (some ⟨wr.heap.size, 1, none⟩)) rfl (by kernel_rfl) (by kernel_rfl) (by kernel_rfl) (fun _ _ _ h => h) (Or.inl ⟨by rfl, fun X hX => by go_simp⟩) hHeld ?_
              try simp only [Act.put, List.setIfInBounds_toArray, List.set_cons_zero, List.set_cons_succ, List.getElem_toArray, List.getElem_cons_zero, List.getElem_cons_succ]
              refine' wpAnyH_take (i := 5) (oi := _) (v := .int .i64 akind) rfl (by kernel_rfl) (by kernel_rfl) (by kernel_rfl) (fun _ _ _ h => h) (Or.inl ⟨by rfl, fun X hX => by (have hX2 := hX.2; go_simp)⟩) hHeld ?_
              try simp only [Act.put, List.setIfInBounds_toArray, List.set_cons_zero, List.set_cons_succ, List.getElem_toArray, List.getElem_cons_zero, List.getElem_cons_succ]
              refine wpAnyH_ready (rs := [6]) (by kernel_rfl) (by simp) ?_
              refine AllReadyH.cons (o := _) rfl (fun K hK => ?_) AllReadyH.nil
              rw [if_pos (by rfl)]
              refine wp_update_set _ _ _ 89 rfl 9 4 (string_keyed Tryz.underlying9) Tryz.underlying89 Tryz.underlying4 (w.heap.size) i _ rfl hs1.out.drew (by unfold maxLen; omega) (.string aname) (.string aname.data.toList) rfl rfl hkey1.out (string_isKey _) ?_
              intro w3 hs13 hg3
              have hs23 := hs2.out.drew.kept hg3 (by simp)
              have hb3 : Below w.heap.size w w3 := (Below.drew hbw).grown hg3 hbw.size (fun k hk => by injection hk with hk; omega)
              have k03 : w3.cell? ⟨wr.heap.size, 0, none⟩ = some (.string aname) := grown_cell hg3 hHeld.1 (by simp; omega)
              have k13 : w3.cell? ⟨wr.heap.size, 1, none⟩ = some (.int .i64 akind) := grown_cell hg3 hHeld.2 (by simp; omega)
              refine hK.out _ _ ⟨k03, k13⟩ (fun hHeld => ?_)
              clear hK K
              try simp only [Act.put, List.setIfInBounds_toArray, List.set_cons_zero, List.set_cons_succ, List.getElem_toArray, List.getElem_cons_zero, List.getElem_cons_succ]
              refine wpAnyH_ready (rs := [7]) (by kernel_rfl) (by simp) ?_
              refine AllReadyH.cons (o := _) rfl (fun K hK => ?_) AllReadyH.nil
              rw [if_pos (by rfl)]
              refine wp_update_set _ _ _ 90 rfl 3 4 (int_keyed Tryz.underlying3) Tryz.underlying90 Tryz.underlying4 (w.heap.size + 1) i _ rfl hs23 (by unfold maxLen; omega) (.int .i64 akind) (.int .i64 akind) rfl rfl hkey2.out (int_isKey _) ?_
              intro w4 hs24 hg4
              have hs14 := hs13.kept hg4 (by simp)
              have hb4 : Below w.heap.size w w4 := hb3.grown hg4 hb3.size (fun k hk => by injection hk with hk; omega)
              refine hK.out _ _ ⟨grown_cell hg4 k03 (by simp; omega), grown_cell hg4 k13 (by simp; omega)⟩ (fun hHeld => ?_)
              clear hK K
              try simp only [Act.put, List.setIfInBounds_toArray, List.set_cons_zero, List.set_cons_succ, List.getElem_toArray, List.getElem_cons_zero, List.getElem_cons_succ]
              refine wpAnyH_done (by kernel_rfl) ?_ _
              go_simp
              go_wp2
              go_roundg (ms.length - (i + 1))
              case measure => have := hg.out; have := hlt2.out; omega
              case rel =>
                refine ⟨i + 1, rfl, by have := hlt2.out; omega, by go_num, hb4, ?_, ?_, ?_⟩
                · rw [htake.out, List.map_append]; exact hs14
                · rw [htake.out, List.map_append]; exact hs24
                · have := hstep2.out; simpa using this.symm
            · go_wp2
              go_ret
              rw [hstep2.out]
              exact ⟨rfl, hbw⟩
          · go_wp2
            go_ret
            rw [hstep2.out]
            exact ⟨rfl, hbw⟩
        · have hcb : (c != 0) = true := by simpa using hc0
          rw [if_pos hc0] at hstep1
          replace hstep1 := hide hstep1
          clear hset1 hset2
          go_wp2
          go_ret
          rw [hstep1.out]
          exact ⟨rfl, hbw⟩
      · have hend := addonsGo_end (l := l) (i := i) (by have := hlen.out; omega)
        rw [hgo.out] at hend
        replace hend := hide hend
        clear hset1 hset2
        go_wp2
        go_ret
        rw [hend.out]
        exact ⟨rfl, hbel⟩
end Go.Proofs.YtlppomkpmnpmcaaGreat

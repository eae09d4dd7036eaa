/- lotteryref12.Addons. -/
import Derived.Test.YtlppomkpmnpmcaaGreatRAddon
import Derived.Test.YtlppomkpmnpmcaaGreatRuleAddons
import Derived.BigQuiet
open Go.RowKit
set_option linter.unusedVariables false
set_option linter.unusedSimpArgs false
namespace Go.Proofs.YtlppomkpmnpmcaaGreat

set_option maxHeartbeats 2000000 in
set_option maxRecDepth 100000 in
theorem raddons_any (v : Value) (ms : List AddonM) (w : World) (h : AddonsR w v ms) :
    Calls Tryz.prog 59 #[v] w (IntB (addonsE (ms.map (·.d))) w) := by
  obtain ⟨l, hl⟩ : ∃ l, l = ms.map (·.d) := ⟨_, rfl⟩
  have hlen : l.length = ms.length := by rw [hl]; simp
  rw [← hl]
  obtain ⟨ao, cap, rfl, hle, hmax⟩ := h.1.shape
  unfold addonsE
  by_cases h4 : 4 < l.length
  · rw [if_pos h4]
    have h4' : 4 < ms.length := by omega
    clear h4 hl hlen h
    go_enter Tryz.func59, Tryz.ntmps59
    go_wp2
    go_ret
    exact ⟨rfl, Below.refl _ _⟩
  · rw [if_neg h4]
    have h4' : ms.length ≤ 4 := by omega
    have hl' := hide hl
    clear hl
    replace hlen := hide hlen
    have hh := hide h
    clear h h4
    obtain ⟨r, hr⟩ : ∃ r, r = addonsGo [] l := ⟨_, rfl⟩
    rw [← hr]
    replace hr := hide hr
    go_enter Tryz.func59, Tryz.ntmps59
    go_wp2
    go_loopg [3] ms.length (fun g t wr => ∃ i : Nat, g = ms.length - i ∧ i ≤ ms.length ∧ t = .int .i64 i ∧ Below w.heap.size w wr ∧ addonsGo (l.take i) (l.drop i) = r)
    case atStart => exact ⟨0, rfl, Nat.zero_le _, rfl, Below.refl _ _, hr.out.symm⟩
    case round =>
      obtain ⟨i, hg, hi, rfl, hbel, hgo⟩ := hrel
      replace hg := hide hg
      replace hgo := hide hgo
      by_cases hlt : i < ms.length
      · have hlt2 := hide hlt
        have i1 : (0 : Int) ≤ (i : Int) := by omega
        have i2 : (i : Int) < (ms.length : Int) := by omega
        have hA := hh.out.below hbel
        obtain ⟨b, off, rfl, hbb, hcell⟩ := hA.1.at_ hlt
        obtain ⟨m, hm⟩ : ∃ m, ms[i]? = some m := ⟨_, List.getElem?_eq_getElem hlt⟩
        have hrange : wr.rangeAt b (off + i * 6) (AddonM.cells m) := fun j u hu => hcell i m hm j u hu
        have hAd := hA.2 i m hm
        clear hcell
        have hlm : l[i]? = some m.d := by rw [hl'.out, List.getElem?_map, hm]; rfl
        have hstep := addonsGo_step hlm
        rw [hgo.out] at hstep
        clear hm hlm hA
        obtain ⟨⟨aname, akind, aprice, afactors, adigits, aprizes⟩, fv, pv⟩ := m
        unfold AddonM.cells at hrange
        obtain ⟨hf, hp⟩ := hAd
        (try simp only [] at hrange hf hp hstep)
        obtain ⟨afa, afn, afc, rfl⟩ := Rd.shape hf
        obtain ⟨apa, apn, apc, rfl⟩ := Rd.shape hp
        have hAd : AddonR wr ⟨⟨aname, akind, aprice, afactors, adigits, aprizes⟩, .slice afa afn afc, .slice apa apn apc⟩ := ⟨hf, hp⟩
        clear hf hp
        obtain ⟨c, hc⟩ : ∃ c, c = addonE ⟨aname, akind, aprice, afactors, adigits, aprizes⟩ := ⟨_, rfl⟩
        have hca := hide (raddon_any ⟨⟨aname, akind, aprice, afactors, adigits, aprizes⟩, .slice afa afn afc, .slice apa apn apc⟩ wr hAd)
        (try simp only [] at hca)
        rw [← hc] at hca hstep
        clear hc
        replace hstep := hide hstep
        have a0 : wr.cell? ⟨b, off + i * 6, none⟩ = some (.string aname) := hrange 0 _ rfl
        have a1 : wr.cell? ⟨b, off + i * 6 + 1, none⟩ = some (.int .i64 akind) := hrange 1 _ rfl
        go_wp2_with (first | (refine wpList_load_mid rfl 92 _ rfl b (off + i * 6) rfl [.string aname, .int .i64 akind, .int .i64 aprice, .slice afa afn afc, .int .i64 adigits, .slice apa apn apc] _ hrange Tryz.underlying92 rfl (by kernel_rfl) ?_) | fail)
        refine hca.out.mono ?_
        rintro e w2 ⟨rfl, hb2⟩
        replace a0 := Bel.cellOf hb2 a0
        replace a1 := Bel.cellOf hb2 a1
        have B2 := Bel.to hbel hb2
        clear hrange hAd hca hb2 hbel
        by_cases hc0 : c = 0
        · subst hc0
          have hs3 : r = if (l.take i).any (fun s => decide (s.name = aname) || decide (s.kind = akind)) = true then 6 else addonsGo (l.take (i + 1)) (l.drop (i + 1)) := by rw [hstep.out, if_neg (by simp)]
          replace hs3 := hide hs3
          clear hstep
          go_wp2
          go_loopg [5] i (fun g t wr' => ∃ k : Nat, g = i - k ∧ k ≤ i ∧ t = .int .i64 k ∧ Below w2.heap.size w2 wr' ∧ ∀ j x, j < k → l[j]? = some x → (decide (x.name = aname) || decide (x.kind = akind)) = false)
          case atStart => exact ⟨0, rfl, Nat.zero_le _, rfl, Below.refl _ _, fun j x hj => absurd hj (Nat.not_lt_zero _)⟩
          case round =>
            obtain ⟨k, hgk, hk, rfl, hbel3, hno⟩ := hrel
            replace hgk := hide hgk
            replace hno := hide hno
            by_cases hki : k < i
            · have hki2 := hide hki
              have k1 : (0 : Int) ≤ (k : Int) := by omega
              have k2 : (k : Int) < (ms.length : Int) := by omega
              have k3 : (k : Int) < (i : Int) := by omega
              have hkl : k < ms.length := by omega
              have hA := hh.out.below (Bel.to B2 hbel3)
              obtain ⟨b', off', hbo, hbb', hcell⟩ := hA.1.at_ hkl
              obtain ⟨rfl, rfl⟩ : b = b' ∧ off = off' := by simpa using hbo
              obtain ⟨n, hn⟩ : ∃ n, ms[k]? = some n := ⟨_, List.getElem?_eq_getElem hkl⟩
              have e0 : wr.cell? ⟨b, off + k * 6, none⟩ = some (.string n.d.name) := hcell k n hn 0 _ rfl
              have e1 : wr.cell? ⟨b, off + k * 6 + 1, none⟩ = some (.int .i64 n.d.kind) := hcell k n hn 1 _ rfl
              have hln : l[k]? = some n.d := by rw [hl'.out, List.getElem?_map, hn]; rfl
              clear hcell hA hbo hn
              replace hln := hide hln
              obtain ⟨⟨ename, ekind, eprice, efactors, edigits, eprizes⟩, efv, epv⟩ := n
              (try simp only [] at e0 e1 hln)
              have f0 := Bel.cellOf hbel3 a0
              have f1 := Bel.cellOf hbel3 a1
              by_cases hne : ename = aname
              · have hyes : (decide (ename = aname) || decide (ekind = akind)) = true := by simp [hne]
                have hany := any_take_yes (p := fun s : AddonD => decide (s.name = aname) || decide (s.kind = akind)) hki hln.out hyes
                have hs4 := hs3.out
                rw [hany, if_pos rfl] at hs4
                replace hs4 := hide hs4
                clear hany hyes
                subst hne
                go_wp2
                go_quiet (fail)
                go_wp2
                go_ret
                rw [hs4.out]
                exact ⟨rfl, Bel.drN (Bel.to B2 hbel3) _⟩
              · have hnb := bytes_ne hne
                by_cases hkk : ekind = akind
                · have hyes : (decide (ename = aname) || decide (ekind = akind)) = true := by simp [hkk]
                  have hany := any_take_yes (p := fun s : AddonD => decide (s.name = aname) || decide (s.kind = akind)) hki hln.out hyes
                  have hs4 := hs3.out
                  rw [hany, if_pos rfl] at hs4
                  replace hs4 := hide hs4
                  replace hne := hide hne
                  clear hany hyes
                  subst hkk
                  go_wp2
                  go_quiet (fail)
                  go_wp2
                  go_ret
                  rw [hs4.out]
                  exact ⟨rfl, Bel.drN (Bel.to B2 hbel3) _⟩
                · have hkb : (ekind == akind) = false := by simpa using hkk
                  have hno2 : (decide (ename = aname) || decide (ekind = akind)) = false := by simp [hne, hkk]
                  have hnext : ∀ j x, j < k + 1 → l[j]? = some x → (decide (x.name = aname) || decide (x.kind = akind)) = false := by
                    intro j x hj hx
                    rcases Nat.lt_succ_iff_lt_or_eq.1 hj with h' | rfl
                    · exact hno.out j x h' hx
                    · rw [hln.out] at hx; injection hx with hx; rw [← hx]; exact hno2
                  replace hnext := hide hnext
                  replace hne := hide hne
                  replace hkk := hide hkk
                  clear hno2
                  go_wp2
                  go_quiet (fail)
                  go_wp2
                  go_roundg (i - (k + 1))
                  case measure => have := hgk.out; have := hki2.out; omega
                  case rel => exact ⟨k + 1, rfl, by have := hki2.out; omega, by go_num, Bel.drN hbel3 _, hnext.out⟩
            · have hki2 : k = i := by omega
              have hs4 := hs3.out
              rw [any_take_no (fun j x hj hx => hno.out j x (by omega) hx), if_neg (by simp)] at hs4
              replace hs4 := hide hs4
              replace hki2 := hide hki2
              have B5 := Bel.to B2 hbel3
              go_wp2
              go_roundg (ms.length - (i + 1))
              case measure => have := hg.out; have := hlt2.out; omega
              case rel => exact ⟨i + 1, rfl, by have := hlt2.out; omega, by go_num, B5, hs4.out.symm⟩
        · have hcb : (c != 0) = true := by simpa using hc0
          have hs3 : r = c := by rw [hstep.out, if_pos hc0]
          replace hs3 := hide hs3
          replace hc0 := hide hc0
          clear hstep
          go_wp2
          go_ret
          rw [hs3.out]
          exact ⟨rfl, B2⟩
      · have hend := addonsGo_end (l := l) (i := i) (by have := hlen.out; omega)
        rw [hgo.out] at hend
        replace hend := hide hend
        go_wp2
        go_ret
        rw [hend.out]
        exact ⟨rfl, hbel⟩
end Go.Proofs.YtlppomkpmnpmcaaGreat

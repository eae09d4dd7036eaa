/- Lemmas, merged out of smaller texts (wip/tools/merge.py). No condition. -/
import Derived.Laws.Bits64
import Derived.Test.YtokhhccokjfgjaaGreatProg
import Derived.Deep.LoopGhost
import Derived.BigQuiet
import Derived.Deep.Cut
import Derived.Deep.DeepCutAuto
import Derived.Outline
import Derived.BigRegion
import Derived.RegionTactic
import Derived.ChangeAlike
import Derived.Laws.BytesString
import Derived.Laws.Concat
import Derived.Laws.Cells
import Derived.Test.YtokhhccokjfgjaaGreatGLine
import Derived.Test.YtokhhccokjfgjaaGreatGCore
import Derived.Test.YtokhhccokjfgjaaGreatGNat
import Derived.Test.YtokhhccokjfgjaaGreatGRef

section
/- Plain: the random generator, samples, quick picks: plain definitions. No program in sight. No condition. -/
set_option linter.unusedVariables false
set_option linter.unusedSimpArgs false
namespace Go.Proofs.YtokhhccokjfgjaaGreat

/-- Below 2^64. -/
def L64 (x : Nat) : Prop := x < 18446744073709551616
theorem L64.lt {x : Nat} (h : L64 x) : x < 18446744073709551616 := h
/-- Mixing. -/
def mixA (x : Nat) : Nat := (x ^^^ x / 1073741824) * 13787848793156543929 % 18446744073709551616
def mixB (x : Nat) : Nat := (x ^^^ x / 134217728) * 10723151780598845931 % 18446744073709551616
def mixN (x : Nat) : Nat := mixB (mixA x) ^^^ mixB (mixA x) / 2147483648

theorem mixA_lt (x : Nat) : mixA x < 18446744073709551616 := Nat.mod_lt _ (by decide)
theorem mixB_lt (x : Nat) : mixB x < 18446744073709551616 := Nat.mod_lt _ (by decide)
theorem mixN_lt (x : Nat) : L64 (mixN x) := by
  have h := mixB_lt (mixA x)
  have h2 : mixB (mixA x) / 2147483648 < 18446744073709551616 := Nat.lt_of_le_of_lt (Nat.div_le_self _ _) h
  exact Nat.xor_lt_two_pow (n := 64) h h2

/-- The state of a generator, and how many values it has made. -/
abbrev St := Nat × Int
def stepN (s : Nat) : Nat := (s + 11400714819323198485) % 18446744073709551616
def stepS (s : St) : St := (stepN s.1, Go.RowKit.wrap64 (s.2 + 1))
def outS (s : St) : Nat := mixN (stepN s.1)
theorem stepN_lt (s : Nat) : L64 (stepN s) := Nat.mod_lt _ (by decide)

/-- Is a value below the greatest multiple of n? -/
def goodB (v n : Nat) : Bool := decide (v ≤ 18446744073709551615 - 18446744073709551616 % n)

/-- A number below n, in at most so many tries: the number, the code; the state. -/
def belowL : Nat → Nat → St → (Nat × Int) × St
  | 0, _, s => ((0, 11), s)
  | k + 1, n, s => if goodB (outS s) n = true then ((outS s % n, 0), stepS s) else belowL k n (stepS s)
def belowS (n : Nat) (s : St) : (Nat × Int) × St := belowL 64 n s

theorem belowL_st {k n : Nat} {s : St} (h : L64 s.1) : L64 (belowL k n s).2.1 := by
  induction k generalizing s with
  | zero => exact h
  | succ k ih =>
    rw [belowL]
    split
    · exact stepN_lt _
    · exact ih (stepN_lt _)
theorem belowL_code (k n : Nat) (s : St) (hn : 0 < n) : ((belowL k n s).1.2 = 0 ∧ (belowL k n s).1.1 < n) ∨ ((belowL k n s).1.2 = 11 ∧ (belowL k n s).1.1 = 0) := by
  induction k generalizing s with
  | zero => exact .inr ⟨rfl, rfl⟩
  | succ k ih =>
    rw [belowL]
    split
    · exact .inl ⟨rfl, Nat.mod_lt _ hn⟩
    · exact ih _
theorem belowS_st {n : Nat} {s : St} (h : L64 s.1) : L64 (belowS n s).2.1 := belowL_st h
theorem belowS_code (n : Nat) (s : St) (hn : 0 < n) : ((belowS n s).1.2 = 0 ∧ (belowS n s).1.1 < n) ∨ ((belowS n s).1.2 = 11 ∧ (belowS n s).1.1 = 0) := belowL_code 64 n s hn

/-- Two places changed for one another. -/
def swapL (l : List Int) (i j : Nat) : List Int := (l.set i (l[j]?.getD 0)).set j (l[i]?.getD 0)
theorem swapL_len (l : List Int) (i j : Nat) : (swapL l i j).length = l.length := by unfold swapL; simp

/-- The numbers 1 to n. -/
def ascL (n : Nat) : List Int := (List.range n).map fun (i : Nat) => (i : Int) + 1
theorem ascL_len (n : Nat) : (ascL n).length = n := by unfold ascL; simp
theorem ascL_succ (n : Nat) : ascL (n + 1) = ascL n ++ [(n : Int) + 1] := by unfold ascL; rw [List.range_succ, List.map_append]; rfl

/-- k steps of a sample from place i on. -/
def sampleL : Nat → Nat → Nat → List Int → St → (List Int × Int) × St
  | 0, _, _, l, s => ((l, 0), s)
  | k + 1, i, n, l, s => if (belowS (n - i) s).1.2 ≠ 0 then (([], (belowS (n - i) s).1.2), (belowS (n - i) s).2) else sampleL k (i + 1) n (swapL l i (i + (belowS (n - i) s).1.1)) (belowS (n - i) s).2
def sampleS (n k : Nat) (s : St) : (List Int × Int) × St := (((sampleL k 0 n (ascL n) s).1.1.take k, (sampleL k 0 n (ascL n) s).1.2), (sampleL k 0 n (ascL n) s).2)

/-- k numbers below n behind acc. -/
def drawL : Nat → Nat → List Int → St → (List Int × Int) × St
  | 0, _, acc, s => ((acc, 0), s)
  | k + 1, n, acc, s => if (belowS n s).1.2 ≠ 0 then (([], (belowS n s).1.2), (belowS n s).2) else drawL k n (acc ++ [((belowS n s).1.1 : Int)]) (belowS n s).2

theorem drawL_st {k n : Nat} {acc : List Int} {s : St} (h : L64 s.1) : L64 (drawL k n acc s).2.1 := by
  induction k generalizing acc s with
  | zero => exact h
  | succ k ih =>
    rw [drawL]
    have h2 := belowS_st (n := n) h
    obtain ⟨R, hR⟩ : ∃ R, R = belowS n s := ⟨_, rfl⟩
    rw [← hR] at h2 ⊢
    clear hR
    by_cases hc : R.1.2 ≠ 0
    · rw [if_pos hc]; exact h2
    · rw [if_neg hc]; exact ih h2
theorem sampleL_st {k i n : Nat} {l : List Int} {s : St} (h : L64 s.1) : L64 (sampleL k i n l s).2.1 := by
  induction k generalizing i l s with
  | zero => exact h
  | succ k ih =>
    rw [sampleL]
    have h2 := belowS_st (n := n - i) h
    obtain ⟨R, hR⟩ : ∃ R, R = belowS (n - i) s := ⟨_, rfl⟩
    rw [← hR] at h2 ⊢
    clear hR
    by_cases hc : R.1.2 ≠ 0
    · rw [if_pos hc]; exact h2
    · rw [if_neg hc]; exact ih h2
theorem sampleS_st {k n : Nat} {s : St} (h : L64 s.1) : L64 (sampleS n k s).2.1 := sampleL_st h

abbrev LineD := List Int × List Int

/-- A quick pick of a valid game: the line, the code; the state. -/
def lineQ (g : GameD) (s : St) : (LineD × Int) × St :=
  if g.kind = 2 then ((((drawL g.main.toNat g.of.toNat [] s).1.1, []), (drawL g.main.toNat g.of.toNat [] s).1.2), (drawL g.main.toNat g.of.toNat [] s).2)
  else if (sampleS g.of.toNat g.main.toNat s).1.2 ≠ 0 then ((([], []), (sampleS g.of.toNat g.main.toNat s).1.2), (sampleS g.of.toNat g.main.toNat s).2)
  else if g.bonus = 0 then (((sortI (sampleS g.of.toNat g.main.toNat s).1.1, []), 0), (sampleS g.of.toNat g.main.toNat s).2)
  else if (sampleS g.bonusOf.toNat g.bonus.toNat (sampleS g.of.toNat g.main.toNat s).2).1.2 ≠ 0 then ((([], []), (sampleS g.bonusOf.toNat g.bonus.toNat (sampleS g.of.toNat g.main.toNat s).2).1.2), (sampleS g.bonusOf.toNat g.bonus.toNat (sampleS g.of.toNat g.main.toNat s).2).2)
  else (((sortI (sampleS g.of.toNat g.main.toNat s).1.1, sortI (sampleS g.bonusOf.toNat g.bonus.toNat (sampleS g.of.toNat g.main.toNat s).2).1.1), 0), (sampleS g.bonusOf.toNat g.bonus.toNat (sampleS g.of.toNat g.main.toNat s).2).2)

theorem lineQ_st {g : GameD} {s : St} (h : L64 s.1) : L64 (lineQ g s).2.1 := by
  unfold lineQ
  have h1 := drawL_st (k := g.main.toNat) (n := g.of.toNat) (acc := []) h
  have h2 := sampleS_st (n := g.of.toNat) (k := g.main.toNat) h
  obtain ⟨R, hR⟩ : ∃ R, R = drawL g.main.toNat g.of.toNat [] s := ⟨_, rfl⟩
  rw [← hR] at h1 ⊢
  clear hR
  obtain ⟨T, hT⟩ : ∃ T, T = sampleS g.of.toNat g.main.toNat s := ⟨_, rfl⟩
  rw [← hT] at h2 ⊢
  clear hT
  have h3 := sampleS_st (n := g.bonusOf.toNat) (k := g.bonus.toNat) h2
  obtain ⟨U, hU⟩ : ∃ U, U = sampleS g.bonusOf.toNat g.bonus.toNat T.2 := ⟨_, rfl⟩
  rw [← hU] at h3 ⊢
  clear hU
  by_cases c1 : g.kind = 2
  · rw [if_pos c1]; exact h1
  · rw [if_neg c1]
    by_cases c2 : T.1.2 ≠ 0
    · rw [if_pos c2]; exact h2
    · rw [if_neg c2]
      by_cases c3 : g.bonus = 0
      · rw [if_pos c3]; exact h2
      · rw [if_neg c3]
        by_cases c4 : U.1.2 ≠ 0
        · rw [if_pos c4]; exact h3
        · rw [if_neg c4]; exact h3

/-- k quick picks behind acc. -/
def linesQ (g : GameD) : Nat → List LineD → St → (List LineD × Int) × St
  | 0, acc, s => ((acc, 0), s)
  | k + 1, acc, s => if (lineQ g s).1.2 ≠ 0 then (([], (lineQ g s).1.2), (lineQ g s).2) else linesQ g k (acc ++ [(lineQ g s).1.1]) (lineQ g s).2

/-- What Line returns. -/
def lineP (g : GameD) (s : St) : (LineD × Int) × St := if gameE g ≠ 0 then ((([], []), gameE g), s) else lineQ g s
/-- What Lines returns. -/
def linesP (g : GameD) (s : Nat) (n : Int) : List LineD × Int := if gameE g ≠ 0 then ([], gameE g) else if n < 0 ∨ 1024 < n then ([], 2) else (linesQ g n.toNat [] (s, 0)).1

/-- The digits of a serial number. -/
def serialP (n : Int) (s : St) : (List Int × Int) × St := if n < 1 ∨ 8 < n then (([], 2), s) else drawL n.toNat 10 [] s
end Go.Proofs.YtokhhccokjfgjaaGreat
end

section
/- Plain: samples are lists of different numbers; quick picks are valid lines; fewer picks are the first ones of more. No condition. -/
set_option linter.unusedVariables false
set_option linter.unusedSimpArgs false
namespace Go.Proofs.YtokhhccokjfgjaaGreat

theorem swapL_perm {l : List Int} {i j : Nat} (hi : i < l.length) (hj : j < l.length) : (swapL l i j).Perm l := by
  rw [List.perm_iff_count]
  intro x
  unfold swapL
  rw [List.getElem?_eq_getElem hi, List.getElem?_eq_getElem hj]
  simp only [Option.getD_some]
  rw [List.count_set (by rw [List.length_set]; exact hj), List.count_set hi, List.getElem_set]
  have h1 : l[i] = x → 0 < l.count x := fun e => List.count_pos_iff.2 (by rw [← e]; exact List.getElem_mem hi)
  have h2 : l[j] = x → 0 < l.count x := fun e => List.count_pos_iff.2 (by rw [← e]; exact List.getElem_mem hj)
  by_cases hij : i = j
  · subst hij
    rw [if_pos rfl]
    by_cases e : l[i] = x
    · have := h1 e
      simp [e]; omega
    · simp [e]
  · rw [if_neg hij]
    by_cases e1 : l[i] = x
    · by_cases e2 : l[j] = x
      · have := h1 e1
        simp [e1, e2]; omega
      · have := h1 e1
        simp [e1, e2]; omega
    · by_cases e2 : l[j] = x
      · have := h2 e2
        simp [e1, e2]
      · simp [e1, e2]

theorem sampleL_perm {k i n : Nat} {l : List Int} {s : St} (hl : l.length = n) (hk : i + k ≤ n) (h : (sampleL k i n l s).1.2 = 0) : (sampleL k i n l s).1.1.Perm l := by
  induction k generalizing i l s with
  | zero => exact List.Perm.refl _
  | succ k ih =>
    rw [sampleL] at h ⊢
    have hb := belowS_code (n - i) s (by omega)
    obtain ⟨R, hR⟩ : ∃ R, R = belowS (n - i) s := ⟨_, rfl⟩
    rw [← hR] at h hb ⊢
    clear hR
    by_cases hc : R.1.2 ≠ 0
    · rw [if_pos hc] at h; exact absurd h hc
    · rw [if_neg hc] at h ⊢
      rcases hb with ⟨_, h2⟩ | ⟨h1, _⟩
      · refine (ih (by rw [swapL_len]; exact hl) (by omega) h).trans (swapL_perm (by omega) (by omega))
      · exact absurd (by rw [h1]; decide) hc

theorem sampleL_len {k i n : Nat} {l : List Int} {s : St} (h : (sampleL k i n l s).1.2 = 0) : (sampleL k i n l s).1.1.length = l.length := by
  induction k generalizing i l s with
  | zero => rfl
  | succ k ih =>
    rw [sampleL] at h ⊢
    obtain ⟨R, hR⟩ : ∃ R, R = belowS (n - i) s := ⟨_, rfl⟩
    rw [← hR] at h ⊢
    clear hR
    by_cases hc : R.1.2 ≠ 0
    · rw [if_pos hc] at h; exact absurd h hc
    · rw [if_neg hc] at h ⊢
      rw [ih h, swapL_len]

theorem sampleL_bad {k i n : Nat} {l : List Int} {s : St} (h : (sampleL k i n l s).1.2 ≠ 0) : (sampleL k i n l s).1.1 = [] := by
  induction k generalizing i l s with
  | zero => exact absurd rfl h
  | succ k ih =>
    rw [sampleL] at h ⊢
    obtain ⟨R, hR⟩ : ∃ R, R = belowS (n - i) s := ⟨_, rfl⟩
    rw [← hR] at h ⊢
    clear hR
    by_cases hc : R.1.2 ≠ 0
    · rw [if_pos hc]
    · rw [if_neg hc] at h ⊢; exact ih h

theorem ascL_mem {n : Nat} {x : Int} (h : x ∈ ascL n) : 1 ≤ x ∧ x ≤ n := by
  unfold ascL at h
  obtain ⟨i, hi, rfl⟩ := List.mem_map.1 h
  have := List.mem_range.1 hi
  omega
theorem ascL_nodup (n : Nat) : (ascL n).Nodup := by
  unfold ascL
  rw [List.nodup_iff_pairwise_ne, List.pairwise_map]
  exact (List.nodup_iff_pairwise_ne.1 List.nodup_range).imp (fun h => by omega)

theorem sampleS_facts {n k : Nat} {s : St} (hk : k ≤ n) (h : (sampleS n k s).1.2 = 0) : (sampleS n k s).1.1.length = k ∧ (sampleS n k s).1.1.Nodup ∧ ∀ x ∈ (sampleS n k s).1.1, 1 ≤ x ∧ x ≤ (n : Int) := by
  have hp : (sampleL k 0 n (ascL n) s).1.1.Perm (ascL n) := sampleL_perm (ascL_len n) (by omega) h
  have hl := hp.length_eq
  rw [ascL_len] at hl
  refine ⟨?_, ?_, ?_⟩
  · show ((sampleL k 0 n (ascL n) s).1.1.take k).length = k
    rw [List.length_take]; omega
  · exact (hp.nodup_iff.2 (ascL_nodup n)).sublist (List.take_sublist _ _)
  · intro x hx
    exact ascL_mem (hp.mem_iff.1 (List.mem_of_mem_take hx))

theorem drawL_facts {k n : Nat} {acc : List Int} {s : St} (hn : 0 < n) (ha : ∀ x ∈ acc, 0 ≤ x ∧ x ≤ (n : Int) - 1) (h : (drawL k n acc s).1.2 = 0) :
    (drawL k n acc s).1.1.length = acc.length + k ∧ ∀ x ∈ (drawL k n acc s).1.1, 0 ≤ x ∧ x ≤ (n : Int) - 1 := by
  induction k generalizing acc s with
  | zero => exact ⟨rfl, ha⟩
  | succ k ih =>
    rw [drawL] at h ⊢
    have hb := belowS_code n s hn
    obtain ⟨R, hR⟩ : ∃ R, R = belowS n s := ⟨_, rfl⟩
    rw [← hR] at h hb ⊢
    clear hR
    by_cases hc : R.1.2 ≠ 0
    · rw [if_pos hc] at h; exact absurd h hc
    · rw [if_neg hc] at h ⊢
      rcases hb with ⟨_, h2⟩ | ⟨h1, _⟩
      · obtain ⟨i1, i2⟩ := ih (acc := acc ++ [(R.1.1 : Int)]) (by
          intro x hx
          rcases List.mem_append.1 hx with hx | hx
          · exact ha x hx
          · rw [List.mem_singleton] at hx; subst hx; omega) h
        refine ⟨?_, i2⟩
        rw [i1]; simp; omega
      · exact absurd (by rw [h1]; decide) hc

theorem drawL_bad {k n : Nat} {acc : List Int} {s : St} (h : (drawL k n acc s).1.2 ≠ 0) : (drawL k n acc s).1.1 = [] := by
  induction k generalizing acc s with
  | zero => exact absurd rfl h
  | succ k ih =>
    rw [drawL] at h ⊢
    obtain ⟨R, hR⟩ : ∃ R, R = belowS n s := ⟨_, rfl⟩
    rw [← hR] at h ⊢
    clear hR
    by_cases hc : R.1.2 ≠ 0
    · rw [if_pos hc]
    · rw [if_neg hc] at h ⊢; exact ih h

theorem mat_bonus {g : GameD} (h : matB g = true) (hk : g.kind = 2) : g.bonus = 0 := by
  unfold matB at h
  simp only [Bool.and_eq_true] at h
  obtain ⟨⟨⟨⟨⟨⟨⟨h1, h2⟩, h3⟩, h4⟩, h5⟩, h6⟩, h7⟩, h8⟩ := h
  rw [if_pos hk] at h4
  have := inB_iff.1 h4
  omega

/-- A quick pick is a valid line, and in a choose game its own canonical form. -/
theorem lineQ_valid {g : GameD} {s : St} (he : gameE g = 0) (h : (lineQ g s).1.2 = 0) :
    lineE g (lineQ g s).1.1.1 (lineQ g s).1.1.2 = 0 ∧ (g.kind ≠ 2 → sortI (lineQ g s).1.1.1 = (lineQ g s).1.1.1 ∧ sortI (lineQ g s).1.1.2 = (lineQ g s).1.1.2) := by
  have hm := game_mat he
  obtain ⟨f1, f2, f3, f4, f5, f6, f7, f8, f9, f10, f11⟩ := mat_facts hm
  unfold lineQ at h ⊢
  by_cases hk : g.kind = 2
  · have hb := mat_bonus hm hk
    obtain ⟨e1, e2⟩ := f7 hk
    rw [if_pos hk] at h ⊢
    obtain ⟨d1, d2⟩ := drawL_facts (k := g.main.toNat) (n := g.of.toNat) (acc := []) (s := s) (by omega) (by simp) h
    refine ⟨lineE_ok.2 ⟨he, ?_, ?_, ?_, ?_, ?_, ?_⟩, fun h => absurd hk h⟩
    · show ((drawL g.main.toNat g.of.toNat [] s).1.1.length : Int) = g.main
      rw [d1]; simp; omega
    · show (([] : List Int).length : Int) = g.bonus
      simp [hb]
    · intro x hx
      have := d2 x hx
      unfold lowG highG
      rw [if_pos hk, if_pos hk]
      omega
    · intro x hx; simp at hx
    · intro h; exact absurd hk h
    · exact List.nodup_nil
  · rw [if_neg hk] at h ⊢
    by_cases h1 : (sampleS g.of.toNat g.main.toNat s).1.2 ≠ 0
    · rw [if_pos h1] at h; exact absurd h h1
    · rw [if_neg h1] at h ⊢
      obtain ⟨a1, a2, a3⟩ := sampleS_facts (n := g.of.toNat) (k := g.main.toNat) (s := s) (by have := f8 hk; omega) (by simpa using h1)
      obtain ⟨R, hR⟩ : ∃ R, R = sampleS g.of.toNat g.main.toNat s := ⟨_, rfl⟩
      rw [← hR] at h h1 a1 a2 a3 ⊢
      clear hR
      have hlen : ((sortI R.1.1).length : Int) = g.main := by rw [sortI_len, a1]; omega
      have hrng : ∀ x ∈ sortI R.1.1, lowG g ≤ x ∧ x ≤ highG g := by
        intro x hx
        have := a3 x ((sortI_perm _).mem_iff.1 hx)
        unfold lowG highG
        rw [if_neg hk, if_neg hk]
        omega
      have hnd : (sortI R.1.1).Nodup := (sortI_perm _).nodup_iff.2 a2
      by_cases h2 : g.bonus = 0
      · rw [if_pos h2] at h ⊢
        refine ⟨lineE_ok.2 ⟨he, hlen, ?_, hrng, ?_, fun _ => hnd, List.nodup_nil⟩, fun _ => ⟨sortI_idem _, sortI_nil⟩⟩
        · show (([] : List Int).length : Int) = g.bonus
          simp [h2]
        · intro x hx; simp at hx
      · rw [if_neg h2] at h ⊢
        by_cases h3 : (sampleS g.bonusOf.toNat g.bonus.toNat R.2).1.2 ≠ 0
        · rw [if_pos h3] at h; exact absurd h h3
        · rw [if_neg h3] at h ⊢
          obtain ⟨b1, b2, b3⟩ := sampleS_facts (n := g.bonusOf.toNat) (k := g.bonus.toNat) (s := R.2) (by omega) (by simpa using h3)
          obtain ⟨T, hT⟩ : ∃ T, T = sampleS g.bonusOf.toNat g.bonus.toNat R.2 := ⟨_, rfl⟩
          rw [← hT] at h h3 b1 b2 b3 ⊢
          clear hT
          refine ⟨lineE_ok.2 ⟨he, hlen, ?_, hrng, ?_, fun _ => hnd, (sortI_perm _).nodup_iff.2 b2⟩, fun _ => ⟨sortI_idem _, sortI_idem _⟩⟩
          · show ((sortI T.1.1).length : Int) = g.bonus
            rw [sortI_len, b1]; omega
          · intro x hx
            have := b3 x ((sortI_perm _).mem_iff.1 hx)
            omega

/-- What a list of quick picks holds. -/
theorem linesQ_valid {g : GameD} {k : Nat} {acc : List LineD} {s : St} {P : LineD → Prop} (hP : ∀ s, (lineQ g s).1.2 = 0 → P (lineQ g s).1.1) (ha : ∀ x ∈ acc, P x) (h : (linesQ g k acc s).1.2 = 0) :
    (linesQ g k acc s).1.1.length = acc.length + k ∧ ∀ x ∈ (linesQ g k acc s).1.1, P x := by
  induction k generalizing acc s with
  | zero => exact ⟨rfl, ha⟩
  | succ k ih =>
    rw [linesQ] at h ⊢
    have hb := hP s
    obtain ⟨R, hR⟩ : ∃ R, R = lineQ g s := ⟨_, rfl⟩
    rw [← hR] at h hb ⊢
    clear hR
    by_cases hc : R.1.2 ≠ 0
    · rw [if_pos hc] at h; exact absurd h hc
    · rw [if_neg hc] at h ⊢
      obtain ⟨i1, i2⟩ := ih (acc := acc ++ [R.1.1]) (by
        intro x hx
        rcases List.mem_append.1 hx with hx | hx
        · exact ha x hx
        · rw [List.mem_singleton] at hx; subst hx; exact hb (by simpa using hc)) h
      refine ⟨?_, i2⟩
      rw [i1]; simp; omega

theorem linesQ_bad {g : GameD} {k : Nat} {acc : List LineD} {s : St} (h : (linesQ g k acc s).1.2 ≠ 0) : (linesQ g k acc s).1.1 = [] := by
  induction k generalizing acc s with
  | zero => exact absurd rfl h
  | succ k ih =>
    rw [linesQ] at h ⊢
    obtain ⟨R, hR⟩ : ∃ R, R = lineQ g s := ⟨_, rfl⟩
    rw [← hR] at h ⊢
    clear hR
    by_cases hc : R.1.2 ≠ 0
    · rw [if_pos hc]
    · rw [if_neg hc] at h ⊢; exact ih h

/-- Fewer picks are the first ones of more. -/
theorem linesQ_succ (g : GameD) (k : Nat) (acc : List LineD) (s : St) : linesQ g (k + 1) acc s = if (lineQ g s).1.2 ≠ 0 then (([], (lineQ g s).1.2), (lineQ g s).2) else linesQ g k (acc ++ [(lineQ g s).1.1]) (lineQ g s).2 := by rw [linesQ]
theorem linesQ_less {g : GameD} {k : Nat} {acc : List LineD} {s : St} (h : (linesQ g (k + 1) acc s).1.2 = 0) :
    (linesQ g k acc s).1.2 = 0 ∧ ∃ x, (linesQ g (k + 1) acc s).1.1 = (linesQ g k acc s).1.1 ++ [x] := by
  induction k generalizing acc s with
  | zero =>
    have e1 := linesQ_succ g 0 acc s
    rw [e1] at h ⊢
    obtain ⟨R, hR⟩ : ∃ R, R = lineQ g s := ⟨_, rfl⟩
    rw [← hR] at h ⊢
    clear hR e1
    by_cases hc : R.1.2 ≠ 0
    · rw [if_pos hc] at h; exact absurd h hc
    · rw [if_neg hc]; exact ⟨rfl, _, rfl⟩
  | succ k ih =>
    have e1 := linesQ_succ g (k + 1) acc s
    have e2 := linesQ_succ g k acc s
    rw [e1] at h ⊢
    rw [e2]
    obtain ⟨R, hR⟩ : ∃ R, R = lineQ g s := ⟨_, rfl⟩
    rw [← hR] at h ⊢
    clear hR e1 e2
    by_cases hc : R.1.2 ≠ 0
    · rw [if_pos hc] at h; exact absurd h hc
    · rw [if_neg hc] at h ⊢
      rw [if_neg hc]
      exact ih h

theorem linesQ_pre {g : GameD} {k : Nat} {acc : List LineD} {s : St} (h : (linesQ g k acc s).1.2 = 0) : ∃ r, (linesQ g k acc s).1.1 = acc ++ r := by
  induction k generalizing acc s with
  | zero => exact ⟨[], by rw [List.append_nil]; rfl⟩
  | succ k ih =>
    rw [linesQ] at h ⊢
    obtain ⟨R, hR⟩ : ∃ R, R = lineQ g s := ⟨_, rfl⟩
    rw [← hR] at h ⊢
    clear hR
    by_cases hc : R.1.2 ≠ 0
    · rw [if_pos hc] at h; exact absurd h hc
    · rw [if_neg hc] at h ⊢
      obtain ⟨r, hr⟩ := ih h
      exact ⟨_, by rw [hr, List.append_assoc]⟩

/-- The first pick is that of Line. -/
theorem linesQ_first {g : GameD} {k : Nat} {s : St} (h : (linesQ g (k + 1) [] s).1.2 = 0) : (lineQ g s).1.2 = 0 ∧ ∃ r, (linesQ g (k + 1) [] s).1.1 = (lineQ g s).1.1 :: r := by
  rw [linesQ] at h ⊢
  obtain ⟨R, hR⟩ : ∃ R, R = lineQ g s := ⟨_, rfl⟩
  rw [← hR] at h ⊢
  clear hR
  by_cases hc : R.1.2 ≠ 0
  · rw [if_pos hc] at h; exact absurd h hc
  · rw [if_neg hc] at h ⊢
    obtain ⟨r, hr⟩ := linesQ_pre h
    exact ⟨by simpa using hc, r, hr⟩

theorem drawL_succ (k n : Nat) (acc : List Int) (s : St) : drawL (k + 1) n acc s = if (belowS n s).1.2 ≠ 0 then (([], (belowS n s).1.2), (belowS n s).2) else drawL k n (acc ++ [((belowS n s).1.1 : Int)]) (belowS n s).2 := by rw [drawL]
theorem drawL_less {k n : Nat} {acc : List Int} {s : St} (h : (drawL (k + 1) n acc s).1.2 = 0) :
    (drawL k n acc s).1.2 = 0 ∧ ∃ x, (drawL (k + 1) n acc s).1.1 = (drawL k n acc s).1.1 ++ [x] := by
  induction k generalizing acc s with
  | zero =>
    have e1 := drawL_succ 0 n acc s
    rw [e1] at h ⊢
    obtain ⟨R, hR⟩ : ∃ R, R = belowS n s := ⟨_, rfl⟩
    rw [← hR] at h ⊢
    clear hR e1
    by_cases hc : R.1.2 ≠ 0
    · rw [if_pos hc] at h; exact absurd h hc
    · rw [if_neg hc]; exact ⟨rfl, _, rfl⟩
  | succ k ih =>
    have e1 := drawL_succ (k + 1) n acc s
    have e2 := drawL_succ k n acc s
    rw [e1] at h ⊢
    rw [e2]
    obtain ⟨R, hR⟩ : ∃ R, R = belowS n s := ⟨_, rfl⟩
    rw [← hR] at h ⊢
    clear hR e1 e2
    by_cases hc : R.1.2 ≠ 0
    · rw [if_pos hc] at h; exact absurd h hc
    · rw [if_neg hc] at h ⊢
      rw [if_neg hc]
      exact ih h

/-- The game of the examples. -/
def pickG : GameD := ⟨⟨#[97]⟩, 1, 1, 3, 3, 0, 0, 0, 1, 3, 1, 0, 0, 0, 1, 0, 0, 1, 0, 0, [], [⟨3, 0, 0, 0, 1, 1⟩]⟩
theorem pick_game : gameE pickG = 0 := by decide
set_option maxRecDepth 20000 in
theorem pick_sample : (sampleS 3 3 (5, 0)).1.2 = 0 ∧ (sampleS 3 3 (sampleS 3 3 (5, 0)).2).1.2 = 0 := by decide +kernel
set_option maxRecDepth 20000 in
theorem pick_serial : (drawL 8 10 [] (1, 0)).1.2 = 0 := by decide +kernel

theorem ascL_sorted (n : Nat) : (ascL n).Pairwise (· ≤ ·) := by
  unfold ascL
  rw [List.pairwise_map]
  exact List.pairwise_lt_range.imp (fun h => by omega)
theorem sort_all {n : Nat} {s : St} (h : (sampleS n n s).1.2 = 0) : sortI (sampleS n n s).1.1 = ascL n := by
  have hp : (sampleL n 0 n (ascL n) s).1.1.Perm (ascL n) := sampleL_perm (ascL_len n) (by omega) h
  have hl := hp.length_eq
  rw [ascL_len] at hl
  have e : (sampleS n n s).1.1 = (sampleL n 0 n (ascL n) s).1.1 := List.take_of_length_le (by omega)
  rw [e]
  exact (sortI_eq (hp.symm) (ascL_sorted n)).symm
theorem asc_three : ascL 3 = [1, 2, 3] := by decide
theorem sort_three {s : St} (h : (sampleS 3 3 s).1.2 = 0) : sortI (sampleS 3 3 s).1.1 = [1, 2, 3] := by rw [sort_all h, asc_three]
theorem lineQ_pick (g : GameD) (s : St) (hk : g.kind = 1) (hb : g.bonus = 0) : lineQ g s = (if (sampleS g.of.toNat g.main.toNat s).1.2 ≠ 0 then ((([], []), (sampleS g.of.toNat g.main.toNat s).1.2), (sampleS g.of.toNat g.main.toNat s).2) else (((sortI (sampleS g.of.toNat g.main.toNat s).1.1, []), 0), (sampleS g.of.toNat g.main.toNat s).2)) := by
  unfold lineQ
  rw [if_neg (by omega), if_pos hb]
theorem pick_line {s : St} (h : (sampleS 3 3 s).1.2 = 0) : lineQ pickG s = ((([1, 2, 3], []), 0), (sampleS 3 3 s).2) := by
  have e := lineQ_pick pickG s rfl rfl
  rw [show pickG.of.toNat = 3 from rfl, show pickG.main.toNat = 3 from rfl] at e
  have h3 := sort_three h
  obtain ⟨R, hR⟩ : ∃ R, R = sampleS 3 3 s := ⟨_, rfl⟩
  rw [← hR] at h e h3 ⊢
  clear hR
  rw [e, if_neg (by simpa using h), h3]
theorem pick_two (s : St) (p1 : (sampleS 3 3 s).1.2 = 0) (p2 : (sampleS 3 3 (sampleS 3 3 s).2).1.2 = 0) : (linesQ pickG 2 [] s).1 = ([([1, 2, 3], []), ([1, 2, 3], [])], 0) := by
  have e1 := pick_line p1
  have e2 := pick_line p2
  obtain ⟨R, hR⟩ : ∃ R, R = (sampleS 3 3 s).2 := ⟨_, rfl⟩
  rw [← hR] at e1 e2
  obtain ⟨T, hT⟩ : ∃ T, T = (sampleS 3 3 R).2 := ⟨_, rfl⟩
  rw [← hT] at e2
  clear hR hT p1 p2
  have f1 := linesQ_succ pickG 1 [] s
  have f2 := linesQ_succ pickG 0 [([1, 2, 3], [])] R
  rw [e1] at f1
  rw [e2] at f2
  rw [f1, if_neg (by simp)]
  show (linesQ pickG (0 + 1) [([1, 2, 3], [])] R).1 = _
  rw [f2, if_neg (by simp)]
  rfl
theorem pick_lines : linesP pickG 5 2 = ([([1, 2, 3], []), ([1, 2, 3], [])], 0) := by
  unfold linesP
  rw [if_neg (by simpa using pick_game), if_neg (by decide), show (2 : Int).toNat = 2 from rfl]
  exact pick_two (5, 0) pick_sample.1 pick_sample.2
end Go.Proofs.YtokhhccokjfgjaaGreat
end

section
/- Words for lists of lines: a slice of lines that reads as a list; one that the call owns; append of one line. No condition but sizes. -/
open Go.RowKit
set_option linter.unusedVariables false
set_option linter.unusedSimpArgs false
namespace Go.Proofs.YtokhhccokjfgjaaGreat

/-- A line's two cells. -/
def LnV (p : Value × Value) : List Value := [p.1, p.2]

/-- A slice of lines. -/
def LinesR (w : World) (v : Value) (ls : List LineD) : Prop := ∃ vs : List (Value × Value), RdS 2 LnV w v vs ∧ vs.length = ls.length ∧ ∀ (i : Nat) p x, vs[i]? = some p → ls[i]? = some x → LineR w p.1 p.2 x.1 x.2

/-- Its elements' blocks are not that of v. -/
def Ap (u v : Value) (l : List Int) : Prop := l = [] ∨ u.ownBlock ≠ v.ownBlock

/-- A slice of lines of the call's own. -/
def OwnLn (w : World) (base : Nat) (v : Value) (ls : List LineD) : Prop := ∃ vs : List (Value × Value), w.ownsRow base 42 2 v vs.length (vs.flatMap LnV) ∧ vs.length = ls.length ∧
  ∀ (i : Nat) p x, vs[i]? = some p → ls[i]? = some x → LineR w p.1 p.2 x.1 x.2 ∧ Fr base p.1 x.1 ∧ Fr base p.2 x.2 ∧ Ap p.1 v x.1 ∧ Ap p.2 v x.2

theorem rd_lt {w : World} {u : Value} {l : List Int} (h : Rd I64 w u l) (hl : l ≠ []) : ∃ b, u.ownBlock = some b ∧ b < w.heap.size := by
  obtain ⟨ao, cap, rfl, h1, h2, h3⟩ := h
  obtain ⟨b, off, rfl, hb, -⟩ := h3 (List.length_pos_iff.2 hl)
  exact ⟨b, rfl, hb⟩

theorem Rd.grownA {w w' : World} {u : Value} {l : List Int} {row : Option Nat} (h : Rd I64 w u l) (hg : w.grownBy w' row) (ha : l = [] ∨ u.ownBlock ≠ row) : Rd I64 w' u l := by
  rcases ha with rfl | ha
  · obtain ⟨ao, cap, rfl, h1, h2, h3⟩ := h
    exact ⟨ao, cap, rfl, h1, h2, fun h => absurd h (by simp)⟩
  · exact h.grown hg (.inl ha)

section
variable {w w' : World} {base : Nat} {v : Value} {ls : List LineD}

theorem LinesR.nil : LinesR w (.slice none 0 0) [] := ⟨[], ⟨none, 0, rfl, Nat.le_refl _, Nat.zero_le _, fun h => absurd h (by simp)⟩, rfl, fun i p x h => by simp at h⟩
theorem LinesR.below (h : LinesR w v ls) (hb : Below w.heap.size w w') : LinesR w' v ls := by
  obtain ⟨vs, h1, h2, h3⟩ := h
  exact ⟨vs, h1.below hb, h2, fun i p x hp hx => (h3 i p x hp hx).below hb⟩
theorem LinesR.shape (h : LinesR w v ls) : ∃ ao cap, v = .slice ao ls.length cap ∧ ls.length ≤ cap ∧ cap ≤ maxLen := by
  obtain ⟨vs, h1, h2, h3⟩ := h
  obtain ⟨ao, cap, e, a, b⟩ := h1.shape
  rw [h2] at e a
  exact ⟨ao, cap, e, a, b⟩
/-- The element at a place: its address, its two cells, what they read as. -/
theorem LinesR.at_ {ao : Option Addr} {n cap i : Nat} (h : LinesR w (.slice ao n cap) ls) (hi : i < ls.length) :
    ∃ b off mv bv, ao = some ⟨b, off, none⟩ ∧ b < w.heap.size ∧ w.cell? ⟨b, off + i * 2, none⟩ = some mv ∧ w.cell? ⟨b, off + i * 2 + 1, none⟩ = some bv ∧ LineR w mv bv ls[i].1 ls[i].2 := by
  obtain ⟨vs, h1, h2, h3⟩ := h
  obtain ⟨b, off, e, hb, hc⟩ := h1.at_ (i := i) (by omega)
  have hv : vs[i]? = some (vs[i]'(by omega)) := List.getElem?_eq_getElem (by omega)
  exact ⟨b, off, _, _, e, hb, hc i _ hv 0 _ rfl, hc i _ hv 1 _ rfl, h3 i _ _ hv (List.getElem?_eq_getElem hi)⟩
theorem LinesR.take (h : LinesR w v ls) {ao : Option Addr} {cap n c : Nat} (hv : v = .slice ao ls.length cap) (hn : n ≤ ls.length) (hnc : n ≤ c) (hc : c ≤ maxLen) : LinesR w (.slice ao n c) (ls.take n) := by
  obtain ⟨vs, h1, h2, h3⟩ := h
  refine ⟨vs.take n, h1.take (by rw [h2]; exact hv) (by omega) hnc hc, by simp [h2], fun i p x hp hx => ?_⟩
  rw [List.getElem?_take] at hp hx
  split at hp
  · rename_i hin
    rw [if_pos hin] at hx
    exact h3 i p x hp hx
  · cases hp

theorem OwnLn.nil (w : World) (base : Nat) : OwnLn w base (.slice none 0 0) [] := ⟨[], World.ownsRow_nil w base _ 2, rfl, fun i p x h => by simp at h⟩
theorem OwnLn.lt (h : OwnLn w base v ls) : ∀ k, v.ownBlock = some k → base ≤ k ∧ k < w.heap.size := by
  obtain ⟨vs, h1, -⟩ := h
  exact World.ownsRow.lt h1
theorem OwnLn.shape (h : OwnLn w base v ls) : ∃ ao cap, v = .slice ao ls.length cap := by
  obtain ⟨vs, h1, h2, -⟩ := h
  rcases h1.2 with ⟨rfl, h0⟩ | ⟨g, cap, cur, rfl, _⟩
  · exact ⟨none, 0, by rw [← h2, h0]⟩
  · exact ⟨_, cap, by rw [h2]⟩
/-- A step that turns one block elsewhere, and lays new ones. -/
theorem OwnLn.grown {row : Option Nat} (h : OwnLn w base v ls) (hg : w.grownBy w' row) (hr : ∀ k, row = some k → k < base) : OwnLn w' base v ls := by
  obtain ⟨vs, h1, h2, h3⟩ := h
  have hlt := World.ownsRow.lt h1
  have hne : ∀ {u : Value} {l : List Int}, Fr base u l → l = [] ∨ u.ownBlock ≠ row := by
    intro u l hf
    rcases hf with rfl | ⟨k, hk, hk2⟩
    · exact .inl rfl
    · refine .inr (fun e => ?_)
      rw [hk] at e
      have := hr k e.symm
      omega
  refine ⟨vs, World.ownsRow.kept h1 hg ?_, h2, fun i p x hp hx => ?_⟩
  · cases hv : v.ownBlock with
    | none => exact .inl rfl
    | some k => exact .inr (fun e => by have := hr k e.symm; have := hlt k hv; omega)
  · obtain ⟨⟨a1, a2⟩, b1, b2, c1, c2⟩ := h3 i p x hp hx
    exact ⟨⟨a1.grownA hg (hne b1), a2.grownA hg (hne b2)⟩, b1, b2, c1, c2⟩
theorem OwnLn.keep (h : OwnLn w base v ls) (hb : Below w.heap.size w w') : OwnLn w' base v ls :=
  h.grown (row := none) ⟨hb.os, hb.tape, hb.output, hb.size, fun k hk _ => hb.block k hk⟩ (fun k hk => by cases hk)

theorem flat_at (vs : List (Value × Value)) (i j : Nat) (p : Value × Value) (u : Value) (hp : vs[i]? = some p) (hu : (LnV p)[j]? = some u) : (vs.flatMap LnV)[i * 2 + j]? = some u := by
  induction vs generalizing i with
  | nil => simp at hp
  | cons q r ih =>
    have hj : j < 2 := by have := (List.getElem?_eq_some_iff.1 hu).1; simpa [LnV] using this
    rw [List.flatMap_cons]
    cases i with
    | zero =>
      simp at hp
      subst hp
      rw [Nat.zero_mul, Nat.zero_add, List.getElem?_append_left (by simp [LnV]; omega)]
      exact hu
    | succ i =>
      rw [List.getElem?_append_right (by simp [LnV]; omega)]
      have := ih i (by simpa using hp)
      rw [show (LnV q).length = 2 from rfl, show (i + 1) * 2 + j - 2 = i * 2 + j by omega]
      exact this

theorem OwnLn.rd (h : OwnLn w base v ls) : LinesR w v ls := by
  obtain ⟨vs, h1, h2, h3⟩ := h
  refine ⟨vs, ?_, h2, fun i p x hp hx => (h3 i p x hp hx).1⟩
  have hlt := World.ownsRow.lt h1
  have h1' := h1
  rcases h1.2 with ⟨rfl, h0⟩ | ⟨g, cap, cur, rfl, hb, hh, hnc, hcm, hsz, ht⟩
  · have : vs = [] := List.eq_nil_of_length_eq_zero h0
    subst this
    exact ⟨none, 0, rfl, Nat.le_refl _, Nat.zero_le _, fun h => absurd h (by simp)⟩
  · refine ⟨_, cap, rfl, hnc, hcm, fun hp => ⟨g, 0, rfl, (hlt g rfl).2, fun i x hx j u hu => ?_⟩⟩
    have hj : j < 2 := by have := (List.getElem?_eq_some_iff.1 hu).1; simpa [LnV] using this
    have hi : i < vs.length := (List.getElem?_eq_some_iff.1 hx).1
    have hf := flat_at vs i j x u hx hu
    rw [Nat.zero_add, h1'.cellAt (i * 2 + j) (by omega)]
    exact hf
end

theorem ap_of {w : World} {u v : Value} {l : List Int} {k : Nat} (h : Rd I64 w u l) (hk : v.ownBlock = some w.heap.size) : Ap u v l := by
  by_cases hl : l = []
  · exact .inl hl
  · obtain ⟨b, hb, hlt⟩ := rd_lt h hl
    exact .inr (by rw [hb, hk]; intro e; injection e with e; omega)

section
variable {P : Program} (w : World)
/-- append of one line. -/
theorem run_append_ln (base : Nat) (t ty : TypeId) (z : Value) (bytes : Nat) (ht : P.underlying t = some (.slice 42)) (hi : (P.info? 42).map (fun i => (i.zero, i.size, i.bytes)) = some (some z, 2, bytes)) (hzs : z.cells.size = 2)
    (v : Value) (ls : List LineD) (hown : OwnLn w base v ls) (h : Nat) (c : Nat) (mv bv : Value) (a b : List Int) (hc0 : w.cell? ⟨h, 0, none⟩ = some mv) (hc1 : w.cell? ⟨h, 1, none⟩ = some bv)
    (hm1 : mv.oneCell' = true) (hb1 : bv.oneCell' = true)
    (hl : LineR w mv bv a b) (f1 : Fr base mv a) (f2 : Fr base bv b) (p1 : Ap mv v a) (p2 : Ap bv v b)
    (h63 : ls.length + 1 ≤ 9223372036854775807) (hbytes : (ls.length + 1) * bytes ≤ 140737488355328) (hbase : base ≤ w.heap.size) :
    ∃ v' w', (Builtin.append_ #[t, t] ty #[v, .slice (some ⟨h, 0, none⟩) 1 c]).run P w = .ok v' w' ∧ OwnLn w' base v' (ls ++ [(a, b)]) ∧ w.grownBy w' v.ownBlock := by
  obtain ⟨i, hi, hz, hs, hby⟩ := info_parts hi
  obtain ⟨vs, h1, h2, h3⟩ := hown
  obtain ⟨v', w', e1, e2, e3, _, e5⟩ := run_append_own_at (P := P) w base t ty _ i z 2 bytes ht hi hz hs hby hzs (by omega) v vs.length (vs.flatMap LnV) h1 ⟨h, 0, none⟩ 1 c [mv, bv] rfl
    (by
      intro j u hj
      match j, hj with
      | 0, hj => simp at hj; subst hj; simpa [Addr.add] using hc0
      | 1, hj => simp at hj; subst hj; simpa [Addr.add] using hc1)
    (by intro u hu; simp at hu; rcases hu with rfl | rfl <;> assumption)
    (by unfold maxLen; omega) (by rw [h2]; exact hbytes) hbase
  have hap : ∀ {u : Value} {l : List Int}, Rd I64 w u l → Ap u v l → Rd I64 w' u l ∧ Ap u v' l := by
    intro u l hr ha
    refine ⟨hr.grownA e3 ha, ?_⟩
    rcases e5 with e5 | e5
    · unfold Ap; rw [e5]; exact ha
    · exact ap_of (k := 0) hr e5
  refine ⟨v', w', e1, ⟨vs ++ [(mv, bv)], ?_, by simp [h2], fun i p x hp hx => ?_⟩, e3⟩
  · rw [List.flatMap_append]
    simpa [LnV] using e2
  · by_cases hiv : i < vs.length
    · rw [List.getElem?_append_left hiv] at hp
      rw [List.getElem?_append_left (by omega)] at hx
      obtain ⟨⟨a1, a2⟩, b1, b2, c1, c2⟩ := h3 i p x hp hx
      obtain ⟨q1, q2⟩ := hap a1 c1
      obtain ⟨q3, q4⟩ := hap a2 c2
      exact ⟨⟨q1, q3⟩, b1, b2, q2, q4⟩
    · rw [List.getElem?_append_right (by omega)] at hp hx
      have hi0 : i - vs.length = 0 := by
        have := (List.getElem?_eq_some_iff.1 hp).1
        simpa using this
      rw [hi0] at hp
      rw [show i - ls.length = 0 by omega] at hx
      simp at hp hx
      subst hp hx
      obtain ⟨q1, q2⟩ := hap hl.1 p1
      obtain ⟨q3, q4⟩ := hap hl.2 p2
      exact ⟨⟨q1, q3⟩, f1, f2, q2, q4⟩

theorem wpList_append_ln {ops : Array Oper} {rest : List Oper} {o : Oper} {A : Act} {Q : Exit → Act → World → Prop} (hgd : o.guard = none) (s x : Operand) (t : TypeId)
    (ho : o.op = .call { callee := .builtin .append, args := #[s, x], argTypes := #[t, t] })
    (base : Nat) (z : Value) (bytes : Nat) (ht : P.underlying t = some (.slice 42)) (hi : (P.info? 42).map (fun i => (i.zero, i.size, i.bytes)) = some (some z, 2, bytes)) (hzs : z.cells.size = 2)
    (v : Value) (ls : List LineD) (hs : A.eval s = v) (hown : OwnLn w base v ls) (h : Nat) (c : Nat) (hx : A.eval x = .slice (some ⟨h, 0, none⟩) 1 c) (mv bv : Value) (a b : List Int) (hc0 : w.cell? ⟨h, 0, none⟩ = some mv) (hc1 : w.cell? ⟨h, 1, none⟩ = some bv)
    (hm1 : mv.oneCell' = true) (hb1 : bv.oneCell' = true)
    (hl : LineR w mv bv a b) (f1 : Fr base mv a) (f2 : Fr base bv b) (p1 : Ap mv v a) (p2 : Ap bv v b)
    (h63 : ls.length + 1 ≤ 9223372036854775807) (hbytes : (ls.length + 1) * bytes ≤ 140737488355328) (hbase : base ≤ w.heap.size)
    (hK : ∀ v' w', OwnLn w' base v' (ls ++ [(a, b)]) → w.grownBy w' v.ownBlock → wpList P ops Q rest (A.put o.dst v') w') : wpList P ops Q (o :: rest) A w := by
  refine wpList_plain hgd fun K hK' => ?_
  obtain ⟨v', w', hr, h2, h3⟩ := run_append_ln (P := P) w base t o.type z bytes ht hi hzs v ls hown h c mv bv a b hc0 hc1 hm1 hb1 hl f1 f2 p1 p2 h63 hbytes hbase
  unfold Oper.wp execOp
  simp only [ho, resolve, invoke, builtin, Sem.run_bind, Sem.run_pure, Result.andThen_ok, List.map_toArray, List.map_cons, List.map_nil, hs, hx, hr]
  exact hK' _ _ (hK v' w' h2 h3)
end
end Go.Proofs.YtokhhccokjfgjaaGreat
end

section
/- digest.Mix, lotteryref07.Mix; a stream's New, Next, Used. No condition but a state below 2^64. -/
open Go.RowKit
set_option linter.unusedVariables false
set_option linter.unusedSimpArgs false
namespace Go.Proofs.YtokhhccokjfgjaaGreat

/-- A generator in a block of its own. -/
def StA (t : TypeId) (w : World) (b : Nat) (s : St) : Prop := Row w b t [.int .u64 (s.1 : Int), .int .i64 s.2]
theorem StA.state {t : TypeId} {w : World} {b : Nat} {s : St} (h : StA t w b s) : w.cell? ⟨b, 0, none⟩ = some (.int .u64 (s.1 : Int)) := (Row.cell? h 0).trans rfl
theorem StA.used {t : TypeId} {w : World} {b : Nat} {s : St} (h : StA t w b s) : w.cell? ⟨b, 1, none⟩ = some (.int .i64 s.2) := (Row.cell? h 1).trans rfl
theorem StA.keep {t : TypeId} {w w' : World} {b : Nat} {s : St} (h : StA t w b s) (hb : Below w.heap.size w w') : StA t w' b s := Row.keep h hb
theorem StA.lt {t : TypeId} {w : World} {b : Nat} {s : St} (h : StA t w b s) : b < w.heap.size := Row.lt h

/-- A value; the generator in a new state; the rest as it was. -/
def PostS (t : TypeId) (v : Value) (b : Nat) (s : St) (w : World) (e : Ending) (w' : World) : Prop := e = .returned v ∧ StA t w' b s ∧ w.grownBy w' (some b)

theorem Gb.to {a w w' : World} {b : Nat} (h : a.grownBy w (some b)) (h2 : w.grownBy w' (some b)) : a.grownBy w' (some b) :=
  ⟨h2.os.trans h.os, h2.tape.trans h.tape, h2.output.trans h.output, Nat.le_trans h.size h2.size, fun i hi hn => (h2.block i (Nat.lt_of_lt_of_le hi h.size) hn).trans (h.block i hi hn)⟩
/-- .. a step that turns a block of the call's own. -/
theorem Gb.toOwn {a w w' : World} {b : Nat} {row : Option Nat} (h : a.grownBy w (some b)) (h2 : w.grownBy w' row) (hr : ∀ k, row = some k → a.heap.size ≤ k) : a.grownBy w' (some b) :=
  ⟨h2.os.trans h.os, h2.tape.trans h.tape, h2.output.trans h.output, Nat.le_trans h.size h2.size, fun i hi hn => (h2.block i (Nat.lt_of_lt_of_le hi h.size) (fun e => by have := hr i e.symm; omega)).trans (h.block i hi hn)⟩
theorem Gb.ofBelow {w w' : World} (h : Below w.heap.size w w') (row : Option Nat) : w.grownBy w' row := ⟨h.os, h.tape, h.output, h.size, fun k hk _ => h.block k hk⟩

theorem mix_steps (x : Nat) (h : x < 18446744073709551616) :
    bits .xor .u64 (IntKind.u64.wrap (bits .xor .u64 (IntKind.u64.wrap (bits .xor .u64 (x : Int) ((x : Int) / 1073741824) * 13787848793156543929)) (IntKind.u64.wrap (bits .xor .u64 (x : Int) ((x : Int) / 1073741824) * 13787848793156543929) / 134217728) * 10723151780598845931))
      (IntKind.u64.wrap (bits .xor .u64 (IntKind.u64.wrap (bits .xor .u64 (x : Int) ((x : Int) / 1073741824) * 13787848793156543929)) (IntKind.u64.wrap (bits .xor .u64 (x : Int) ((x : Int) / 1073741824) * 13787848793156543929) / 134217728) * 10723151780598845931) / 2147483648) = (mixN x : Int) := by
  have e1 := mixStep_u64 x 1073741824 13787848793156543929 h
  rw [show ((1073741824 : Nat) : Int) = 1073741824 from rfl, show ((13787848793156543929 : Nat) : Int) = 13787848793156543929 from rfl] at e1
  rw [e1]
  have e2 := mixStep_u64 (mixA x) 134217728 10723151780598845931 (mixA_lt x)
  rw [show ((134217728 : Nat) : Int) = 134217728 from rfl, show ((10723151780598845931 : Nat) : Int) = 10723151780598845931 from rfl] at e2
  unfold mixA at e2
  rw [e2]
  have e3 := xorShift_u64 (mixB (mixA x)) 2147483648 (mixB_lt _)
  rw [show ((2147483648 : Nat) : Int) = 2147483648 from rfl] at e3
  unfold mixB mixA at e3
  rw [e3]
  rfl

set_option maxRecDepth 100000 in
theorem mix_any (x : Nat) (w : World) (h : L64 x) : Calls Tryz.prog 23 #[.int .u64 (x : Int)] w (Pure (.int .u64 (mixN x : Int)) w) := by
  have hm := hide (mix_steps x h)
  have h0 : (0 : Int) ≤ (x : Int) := by omega
  go_enter Tryz.func23, Tryz.ntmps23
  go_wp2
  go_ret
  exact ⟨ret_int hm.out, rfl⟩

set_option maxRecDepth 100000 in
theorem rmix_any (x : Nat) (w : World) (h : L64 x) : Calls Tryz.prog 24 #[.int .u64 (x : Int)] w (Pure (.int .u64 (mixN x : Int)) w) := by
  have hm := hide (mix_steps x h)
  have h0 : (0 : Int) ≤ (x : Int) := by omega
  go_enter Tryz.func24, Tryz.ntmps24
  go_wp2
  go_ret
  exact ⟨ret_int hm.out, rfl⟩
end Go.Proofs.YtokhhccokjfgjaaGreat
end

section
/- A stream's New, Next, Used, Below. No condition but a state below 2^64. -/
open Go.RowKit
set_option linter.unusedVariables false
set_option linter.unusedSimpArgs false
namespace Go.Proofs.YtokhhccokjfgjaaGreat

theorem step_int (x : Nat) : IntKind.u64.wrap ((x : Int) + 11400714819323198485) = (stepN x : Int) := by
  rw [IntKind.wrap_u64]; unfold stepN; omega
/-- Both cells stored. -/
theorem StA.stored {t : TypeId} {w : World} {b : Nat} {s : St} (h : StA t w b s) (x : Nat) (u : Int) : StA t ((w.setCell ⟨b, 0, none⟩ (.int .u64 (x : Int))).setCell ⟨b, 1, none⟩ (.int .i64 u)) b (x, u) := by
  unfold StA at h
  have h2 := Row.set (Row.set h 0 (.int .u64 (x : Int))) 1 (.int .i64 u)
  simp only [List.set_cons_zero, List.set_cons_succ] at h2
  unfold StA
  exact h2
theorem StA.storedGb {t : TypeId} {w : World} {b : Nat} {s : St} (h : StA t w b s) (x u : Value) : w.grownBy ((w.setCell ⟨b, 0, none⟩ x).setCell ⟨b, 1, none⟩ u) (some b) := by
  have h1 := Gb.set (g := b) (Gb.refl w (some b)) (p := ⟨b, 0, none⟩) (.inl rfl) x
  have h2 := Gb.set (g := b) h1 (p := ⟨b, 1, none⟩) (.inl rfl) u
  exact h2

set_option maxHeartbeats 1000000 in
set_option maxRecDepth 100000 in
theorem snext_any (b : Nat) (s : St) (w : World) (h : StA 58 w b s) : Calls Tryz.prog 12 #[.pointer (some ⟨b, 0, none⟩)] w (PostS 58 (.int .u64 (outS s : Int)) b (stepS s) w) := by
  have cm := hide (fun X => mix_any (stepN s.1) X (stepN_lt _))
  obtain ⟨x, u⟩ := s
  have hs := step_int x
  have c0 := h.state
  have c1 := h.used
  have f0 := Row.frozen h 0
  have f1 := Row.frozen h 1
  have hh := hide h
  clear h
  go_enter Tryz.func12, Tryz.ntmps12
  go_upto_region 5 with (fail)
  obtain ⟨W, hW⟩ : ∃ W, W = ((w.setCell ⟨b, 0, none⟩ (.int .u64 (stepN x : Int))).setCell ⟨b, 1, none⟩ (.int .i64 (wrap64 (u + 1)))) := ⟨_, rfl⟩
  have r1 : StA 58 W b (stepN x, wrap64 (u + 1)) := by rw [hW]; exact hh.out.stored _ _
  have g1 : w.grownBy W (some b) := by rw [hW]; exact hh.out.storedGb _ _
  have d0 := r1.state
  rw [← hW]
  clear hW hs f0 f1 c0 c1
  go_wp2_with fail
  refine (cm.out _).mono ?_
  rintro e w2 ⟨rfl, rfl⟩
  go_wp2
  go_ret
  exact ⟨rfl, r1, g1⟩

set_option maxHeartbeats 1000000 in
set_option maxRecDepth 100000 in
theorem rnext_any (b : Nat) (s : St) (w : World) (h : StA 60 w b s) : Calls Tryz.prog 13 #[.pointer (some ⟨b, 0, none⟩)] w (PostS 60 (.int .u64 (outS s : Int)) b (stepS s) w) := by
  have cm := hide (fun X => rmix_any (stepN s.1) X (stepN_lt _))
  obtain ⟨x, u⟩ := s
  have hs := step_int x
  have c0 := h.state
  have c1 := h.used
  have f0 := Row.frozen h 0
  have f1 := Row.frozen h 1
  have hh := hide h
  clear h
  go_enter Tryz.func13, Tryz.ntmps13
  go_upto_region 3 with (fail)
  obtain ⟨W, hW⟩ : ∃ W, W = ((w.setCell ⟨b, 0, none⟩ (.int .u64 (stepN x : Int))).setCell ⟨b, 1, none⟩ (.int .i64 (wrap64 (u + 1)))) := ⟨_, rfl⟩
  have r1 : StA 60 W b (stepN x, wrap64 (u + 1)) := by rw [hW]; exact hh.out.stored _ _
  have g1 : w.grownBy W (some b) := by rw [hW]; exact hh.out.storedGb _ _
  have d0 := r1.state
  rw [← hW]
  clear hW hs f0 f1 c0 c1
  go_wp2_with fail
  refine (cm.out _).mono ?_
  rintro e w2 ⟨rfl, rfl⟩
  go_wp2
  go_ret
  exact ⟨rfl, r1, g1⟩

set_option maxRecDepth 100000 in
/-- A new generator. -/
theorem snew_any (x : Nat) (w : World) : Calls Tryz.prog 10 #[.int .u64 (x : Int)] w (fun e w' => e = .returned (.pointer (some ⟨w.heap.size, 0, none⟩)) ∧ StA 58 w' w.heap.size (x, 0) ∧ Below w.heap.size w w' ∧ w'.heap.size = w.heap.size + 1) := by
  go_enter Tryz.func10, Tryz.ntmps10
  go_wp2
  go_ret
  exact ⟨rfl, Row.new _ _ _, Bel.al (Below.refl _ _) _, by simp⟩

set_option maxRecDepth 100000 in
/-- A new generator. -/
theorem rnew_any (x : Nat) (w : World) : Calls Tryz.prog 11 #[.int .u64 (x : Int)] w (fun e w' => e = .returned (.pointer (some ⟨w.heap.size, 0, none⟩)) ∧ StA 60 w' w.heap.size (x, 0) ∧ Below w.heap.size w w' ∧ w'.heap.size = w.heap.size + 1) := by
  go_enter Tryz.func11, Tryz.ntmps11
  go_wp2
  go_ret
  exact ⟨rfl, Row.new _ _ _, Bel.al (Below.refl _ _) _, by simp⟩

set_option maxRecDepth 100000 in
theorem sused_any (b : Nat) (s : St) (w : World) (h : StA 58 w b s) : Calls Tryz.prog 17 #[.pointer (some ⟨b, 0, none⟩)] w (Pure (.int .i64 s.2) w) := by
  have c1 := h.used
  clear h
  go_enter Tryz.func17, Tryz.ntmps17
  go_wp2
  go_ret
  exact ⟨rfl, rfl⟩

set_option maxRecDepth 100000 in
theorem rused_any (b : Nat) (s : St) (w : World) (h : StA 60 w b s) : Calls Tryz.prog 18 #[.pointer (some ⟨b, 0, none⟩)] w (Pure (.int .i64 s.2) w) := by
  have c1 := h.used
  clear h
  go_enter Tryz.func18, Tryz.ntmps18
  go_wp2
  go_ret
  exact ⟨rfl, rfl⟩

end Go.Proofs.YtokhhccokjfgjaaGreat
end

section
/- A stream's Below: a number below n. Condition: n from 1 to 2^31. -/
open Go.RowKit
set_option linter.unusedVariables false
set_option linter.unusedSimpArgs false
namespace Go.Proofs.YtokhhccokjfgjaaGreat

def restN (n : Nat) : Nat := 18446744073709551616 % n
theorem restN_lt {n : Nat} (h : 1 ≤ n) : restN n < n := Nat.mod_lt _ h
theorem rest_neg {n : Nat} (h1 : 1 ≤ n) (h2 : n ≤ 2147483648) : (IntKind.u64.wrap (-(n : Int))).tmod (n : Int) = (restN n : Int) := by
  rw [IntKind.wrap_u64]
  have e : (-(n : Int)) % 18446744073709551616 = ((18446744073709551616 - n : Nat) : Int) := by omega
  rw [e]
  unfold restN
  rw [Int.tmod_eq_emod_of_nonneg (by omega), ← Int.natCast_emod]
  congr 1
  rw [Nat.mod_eq_sub_mod (a := 18446744073709551616) (by omega)]
theorem good_yes {o n : Nat} (h : (o : Int) ≤ 18446744073709551615 - (restN n : Int)) : goodB o n = true := by
  unfold goodB
  have : restN n = 18446744073709551616 % n := rfl
  rw [← this]
  exact decide_eq_true (by omega)
theorem good_no {o n : Nat} (h1 : 1 ≤ n) (h2 : n ≤ 2147483648) (h : ¬ (o : Int) ≤ 18446744073709551615 - (restN n : Int)) : goodB o n = false := by
  unfold goodB
  have : restN n = 18446744073709551616 % n := rfl
  rw [← this]
  have := restN_lt h1
  exact decide_eq_false (by omega)
theorem belowL_yes {k n : Nat} {s : St} (h : goodB (outS s) n = true) : belowL (k + 1) n s = ((outS s % n, 0), stepS s) := by rw [belowL, if_pos h]
theorem belowL_no {k n : Nat} {s : St} (h : goodB (outS s) n = false) : belowL (k + 1) n s = belowL k n (stepS s) := by rw [belowL, h, if_neg (by simp)]
theorem PostS.of {t : TypeId} {v : Value} {b : Nat} {s : St} {w w1 w2 : World} (h1 : StA t w2 b s) (h2 : w.grownBy w1 (some b)) (h3 : w1.grownBy w2 (some b)) : PostS t v b s w (.returned v) w2 := ⟨rfl, h1, Gb.to h2 h3⟩

set_option maxHeartbeats 2000000 in
set_option maxRecDepth 100000 in
theorem sbelow_any (b n : Nat) (s : St) (w : World) (h : StA 58 w b s) (h1 : 1 ≤ n) (h2 : n ≤ 2147483648) :
    Calls Tryz.prog 26 #[.pointer (some ⟨b, 0, none⟩), .int .i64 (n : Int)] w (PostS 58 (.tuple #[.int .i64 ((belowS n s).1.1 : Int), .int .i64 (belowS n s).1.2]) b (belowS n s).2 w) := by
  obtain ⟨R, hR⟩ : ∃ R, R = belowS n s := ⟨_, rfl⟩
  rw [← hR]
  unfold belowS at hR
  replace hR := hide hR.symm
  have hh := hide h
  clear h
  have a1 : (1 : Int) ≤ (n : Int) := by omega
  have a2 : (n : Int) ≤ 2147483648 := by omega
  have hN := hide (And.intro h1 h2)
  have hq := rest_neg h1 h2
  have hq1 := restN_lt h1
  obtain ⟨q, hqq⟩ : ∃ q, q = restN n := ⟨_, rfl⟩
  rw [← hqq] at hq hq1
  replace hqq := hide hqq
  go_enter Tryz.func26, Tryz.ntmps26
  go_wp2
  clear h1 h2
  go_loopg [23] 64 (fun gh t wr => ∃ (k : Nat) (st : St), gh = k ∧ k ≤ 64 ∧ t = .int .i64 ((64 : Int) - (k : Int)) ∧ StA 58 wr b st ∧ w.grownBy wr (some b) ∧ Hid (belowL k n st = R))
  case atStart => exact ⟨64, s, rfl, Nat.le_refl _, rfl, hh.out, Gb.refl _ _, hR⟩
  case round =>
    obtain ⟨k, st, hg, hk, rfl, hS, hG, hB⟩ := hrel
    replace hg := hide hg
    by_cases hlt : 0 < k
    · have hlt2 := hide hlt
      have j1 : (64 : Int) - (k : Int) < 64 := by omega
      have j2 : (0 : Int) ≤ (64 : Int) - (k : Int) := by omega
      have cn := hide (snext_any b st wr hS)
      obtain ⟨o, ho⟩ : ∃ o, o = outS st := ⟨_, rfl⟩
      rw [← ho] at cn
      obtain ⟨m, hm⟩ : ∃ m, m = o % n := ⟨_, rfl⟩
      have m1 : m < n := by rw [hm]; exact Nat.mod_lt _ (by have := hN.out; omega)
      have hmi : (o : Int) % (n : Int) = (m : Int) := by rw [hm]; simp
      have o0 : (0 : Int) ≤ (o : Int) := by omega
      have hB2 := hB.out
      obtain ⟨k', rfl⟩ : ∃ k', k = k' + 1 := ⟨k - 1, by omega⟩
      by_cases hgd : (o : Int) ≤ 18446744073709551615 - (q : Int)
      · have hy : goodB (outS st) n = true := by rw [← ho]; rw [hqq.out] at hgd; exact good_yes hgd
        rw [belowL_yes hy, ← ho, ← hm] at hB2
        rw [← hB2]
        clear hB2 hB hR
        replace ho := hide ho
        replace hm := hide hm
        replace hy := hide hy
        go_wp2_with fail
        refine cn.out.mono ?_
        rintro e w1 ⟨rfl, hS1, hG1⟩
        go_wp2
        go_ret2
        exact PostS.of hS1 hG hG1
      · have hn : goodB (outS st) n = false := by have := hN.out; rw [← ho]; rw [hqq.out] at hgd; exact good_no this.1 this.2 hgd
        rw [belowL_no hn] at hB2
        replace hB2 := hide hB2
        replace ho := hide ho
        replace hm := hide hm
        replace hn := hide hn
        clear hB
        go_wp2_with fail
        refine cn.out.mono ?_
        rintro e w1 ⟨rfl, hS1, hG1⟩
        go_wp2
        go_roundg k'
        case measure => have := hg.out; omega
        case rel => exact ⟨k', _, rfl, by omega, by go_num, hS1, Gb.to hG hG1, hB2⟩
    · have hk0 : k = 0 := by omega
      subst hk0
      have e := hB.out
      rw [belowL] at e
      subst e
      clear hB
      go_wp2
      go_ret2
      exact ⟨rfl, hS, hG⟩

theorem rest_pos {n : Nat} (h1 : 1 ≤ n) (h2 : n ≤ 2147483648) : (18446744073709551615 % (n : Int) + 1) % (n : Int) = (restN n : Int) := by
  unfold restN
  rw [Int.emod_add_emod]
  simp
set_option maxHeartbeats 1000000 in
set_option maxRecDepth 100000 in
theorem good_any (o n : Nat) (w : World) (h1 : 1 ≤ n) (h2 : n ≤ 2147483648) (ho : o < 18446744073709551616) : Calls Tryz.prog 66 #[.int .u64 (o : Int), .int .u64 (n : Int)] w (Pure (.bool (goodB o n)) w) := by
  have a1 : (1 : Int) ≤ (n : Int) := by omega
  have a2 : (n : Int) ≤ 2147483648 := by omega
  have hq := rest_pos h1 h2
  have hq1 := restN_lt h1
  have hN := hide (And.intro h1 h2)
  obtain ⟨q, hqq⟩ : ∃ q, q = restN n := ⟨_, rfl⟩
  rw [← hqq] at hq hq1
  have o1 : (o : Int) ≤ 18446744073709551615 := by omega
  have hb1 : 0 ≤ (18446744073709551615 : Int) % (n : Int) := Int.emod_nonneg _ (by omega)
  have hb2 : (18446744073709551615 : Int) % (n : Int) < (n : Int) := Int.emod_lt_of_pos _ (by omega)
  by_cases hz : q = 0
  · have hy : goodB o n = true := good_yes (by rw [← hqq]; omega)
    rw [hy]
    subst hz
    clear hy hqq h1 h2 ho
    go_enter Tryz.func66, Tryz.ntmps66
    go_wp2
    go_ret
    exact ⟨rfl, rfl⟩
  · have hz2 : ((q : Int) == 0) = false := by simpa using hz
    by_cases hgd : (o : Int) ≤ 18446744073709551615 - (q : Int)
    · have hy : goodB o n = true := good_yes (by rw [← hqq]; exact hgd)
      rw [hy]
      replace hqq := hide hqq
      clear hy h1 h2 ho
      go_enter Tryz.func66, Tryz.ntmps66
      go_wp2
      go_ret
      exact ⟨rfl, rfl⟩
    · have hy : goodB o n = false := good_no h1 h2 (by rw [← hqq]; exact hgd)
      rw [hy]
      replace hqq := hide hqq
      clear hy h1 h2 ho
      go_enter Tryz.func66, Tryz.ntmps66
      go_wp2
      go_ret
      exact ⟨rfl, rfl⟩

set_option maxHeartbeats 2000000 in
set_option maxRecDepth 100000 in
theorem rbelow_any (b n : Nat) (s : St) (w : World) (h : StA 60 w b s) (h1 : 1 ≤ n) (h2 : n ≤ 2147483648) :
    Calls Tryz.prog 48 #[.pointer (some ⟨b, 0, none⟩), .int .i64 (n : Int)] w (PostS 60 (.tuple #[.int .i64 ((belowS n s).1.1 : Int), .int .i64 (belowS n s).1.2]) b (belowS n s).2 w) := by
  obtain ⟨R, hR⟩ : ∃ R, R = belowS n s := ⟨_, rfl⟩
  rw [← hR]
  unfold belowS at hR
  replace hR := hide hR.symm
  have hh := hide h
  clear h
  have a1 : (1 : Int) ≤ (n : Int) := by omega
  have a2 : (n : Int) ≤ 2147483648 := by omega
  have hN := hide (And.intro h1 h2)
  have cg := hide (fun (o : Nat) X (ho : o < 18446744073709551616) => good_any o n X h1 h2 ho)
  go_enter Tryz.func48, Tryz.ntmps48
  go_wp2
  clear h1 h2
  go_loopg [6] 64 (fun gh t wr => ∃ (k : Nat) (st : St), gh = k ∧ k ≤ 64 ∧ t = .int .i64 ((64 : Int) - (k : Int)) ∧ StA 60 wr b st ∧ w.grownBy wr (some b) ∧ Hid (belowL k n st = R))
  case atStart => exact ⟨64, s, rfl, Nat.le_refl _, rfl, hh.out, Gb.refl _ _, hR⟩
  case round =>
    obtain ⟨k, st, hg, hk, rfl, hS, hG, hB⟩ := hrel
    replace hg := hide hg
    by_cases hlt : 0 < k
    · have hlt2 := hide hlt
      have j1 : (64 : Int) - (k : Int) < 64 := by omega
      have j2 : (0 : Int) ≤ (64 : Int) - (k : Int) := by omega
      have cn := hide (rnext_any b st wr hS)
      obtain ⟨o, ho⟩ : ∃ o, o = outS st := ⟨_, rfl⟩
      rw [← ho] at cn
      obtain ⟨m, hm⟩ : ∃ m, m = o % n := ⟨_, rfl⟩
      have m1 : m < n := by rw [hm]; exact Nat.mod_lt _ (by have := hN.out; omega)
      have hmi : (o : Int) % (n : Int) = (m : Int) := by rw [hm]; simp
      have o0 : (0 : Int) ≤ (o : Int) := by omega
      have hB2 := hB.out
      obtain ⟨k', rfl⟩ : ∃ k', k = k' + 1 := ⟨k - 1, by omega⟩
      have ol : o < 18446744073709551616 := by rw [ho]; exact mixN_lt _
      by_cases hgd : goodB o n = true
      · have hy := hgd
        have hyo : goodB (outS st) n = true := by rw [← ho]; exact hgd
        rw [belowL_yes hyo, ← ho, ← hm] at hB2
        rw [← hB2]
        clear hB2 hB hR hyo hgd
        replace hy := hide hy
        replace ho := hide ho
        replace hm := hide hm
        have cg2 := hide (cg.out o)
        go_wp2_with fail
        refine cn.out.mono ?_
        rintro e w1 ⟨rfl, hS1, hG1⟩
        go_wp2_with fail
        refine (cg2.out _ ol).mono ?_
        rintro e w2 ⟨rfl, rfl⟩
        have hy2 := hy.out
        rw [hy2]
        clear hy2
        go_wp2
        go_ret2
        exact PostS.of hS1 hG hG1
      · have hy : goodB o n = false := by simpa using hgd
        have hyo : goodB (outS st) n = false := by rw [← ho]; exact hy
        rw [belowL_no hyo] at hB2
        replace hB2 := hide hB2
        replace hy := hide hy
        clear hB hyo hgd
        replace ho := hide ho
        replace hm := hide hm
        have cg2 := hide (cg.out o)
        go_wp2_with fail
        refine cn.out.mono ?_
        rintro e w1 ⟨rfl, hS1, hG1⟩
        go_wp2_with fail
        refine (cg2.out _ ol).mono ?_
        rintro e w2 ⟨rfl, rfl⟩
        have hy2 := hy.out
        rw [hy2]
        clear hy2
        go_wp2
        go_roundg k'
        case measure => have := hg.out; omega
        case rel => exact ⟨k', _, rfl, by omega, by go_num, hS1, Gb.to hG hG1, hB2⟩
    · have hk0 : k = 0 := by omega
      subst hk0
      have e := hB.out
      rw [belowL] at e
      subst e
      clear hB
      go_wp2
      go_ret2
      exact ⟨rfl, hS, hG⟩

end Go.Proofs.YtokhhccokjfgjaaGreat
end

section
/- quickpick.collect, lotteryref14.digits: so many numbers below n. Condition: n from 1 to 2^31, at most 1000 numbers. -/
open Go.RowKit
set_option linter.unusedVariables false
set_option linter.unusedSimpArgs false
namespace Go.Proofs.YtokhhccokjfgjaaGreat

/-- A list of the call's own, a code; the generator in a new state. -/
def ListS (t : TypeId) (b : Nat) (R : (List Int × Int) × St) (w : World) (e : Ending) (w' : World) : Prop := ∃ v, e = .returned (.tuple #[v, .int .i64 R.1.2]) ∧ Own I64 w' w.heap.size 3 v R.1.1 ∧ StA t w' b R.2 ∧ w.grownBy w' (some b)
theorem StA.row {t : TypeId} {w w' : World} {b : Nat} {s : St} {row : Option Nat} (h : StA t w b s) (hg : w.grownBy w' row) (hr : ∀ k, row = some k → b < k) : StA t w' b s := Row.grown h hg (fun e => by have := hr b e.symm; omega)

set_option maxHeartbeats 2000000 in
set_option maxRecDepth 100000 in
theorem collect_any (b n k : Nat) (s : St) (w : World) (h : StA 58 w b s) (h1 : 1 ≤ n) (h2 : n ≤ 2147483648) (hk : k ≤ 1000) :
    Calls Tryz.prog 25 #[.func (.func 26) #[.pointer (some ⟨b, 0, none⟩)] #[], .int .i64 (n : Int), .int .i64 (k : Int)] w (ListS 58 b (drawL k n [] s) w) := by
  obtain ⟨R, hR⟩ : ∃ R, R = drawL k n [] s := ⟨_, rfl⟩
  rw [← hR]
  replace hR := hide hR.symm
  have hb := h.lt
  have cb := hide (fun (st : St) X (hX : StA 58 X b st) => sbelow_any b n st X hX h1 h2)
  have hN := hide h1
  have hh := hide h
  clear h h1 h2
  go_enter Tryz.func25, Tryz.ntmps25
  go_wp2_with (with_reducible refine wpList_make_row _ rfl _ _ 40 rfl 3 (.int .i64 0) 8 Tryz.underlying40 infoInt rfl .i64 .i64 _ _ 0 k rfl rfl (by omega) (by omega) (Nat.zero_le _) (by omega) (by omega) ?_; intro W hrow bW sW)
  have h0 : Own I64 W w.heap.size 3 (.slice (some ⟨w.heap.size, 0, none⟩) 0 k) [] := Own.ofRow hrow (Nat.le_refl _) (by omega)
  have hS0 := hh.out.keep bW
  have hG0 := Gb.ofBelow bW (some b)
  clear hrow bW sW hh
  go_wp2
  go_loopg [8, 14] k (fun gh v i wr => ∃ (j : Nat) (acc : List Int) (st : St) (ao : Option Addr) (m cap : Nat), gh = k - j ∧ j ≤ k ∧ i = .int .i64 (j : Int) ∧ v = .slice ao m cap ∧ Own I64 wr w.heap.size 3 (.slice ao m cap) acc ∧ StA 58 wr b st ∧ w.grownBy wr (some b) ∧ Hid (acc.length = j) ∧ Hid (drawL (k - j) n acc st = R))
  case atStart => exact ⟨0, [], s, _, _, _, rfl, Nat.zero_le _, rfl, rfl, h0, hS0, hG0, rfl, hR⟩
  case round =>
    obtain ⟨j, acc, st, ao, m, cap, hg, hj, rfl, rfl, hown, hS, hG, hal, hD⟩ := hrel
    replace hg := hide hg
    by_cases hlt : j < k
    · have hlt2 := hide hlt
      have cc := cb.out st wr hS
      have hcode := hide (belowS_code n st hN.out)
      have hD2 := hD.out
      rw [show k - j = (k - j - 1) + 1 by omega, drawL] at hD2
      obtain ⟨B, hB⟩ : ∃ B, B = belowS n st := ⟨_, rfl⟩
      rw [← hB] at cc hD2 hcode
      clear hB hD
      obtain ⟨⟨x, c⟩, st'⟩ := B
      simp only [] at cc hD2 hcode
      replace cc := hide cc
      have hlt3 := World.ownsRow.lt hown
      by_cases hc : c = 0
      · subst hc
        rw [if_neg (by simp)] at hD2
        replace hD2 := hide hD2
        replace hcode := hide hcode
        replace hlt3 := hide hlt3
        go_wp2_with fail
        refine cc.out.mono ?_
        rintro e w1 ⟨rfl, hS1, hG1⟩
        have hown1 : Own I64 w1 w.heap.size 3 (.slice ao m cap) acc := hown.grown hG1 (by cases hv : (Value.slice ao m cap).ownBlock with | none => exact .inl rfl | some g => exact .inr (fun e => by injection e with e; have := (hlt3.out g hv).1; omega))
        have hG2 := Gb.to hG hG1
        clear hown hG hG1 hS
        go_wp2_with (with_reducible refine wpList_append_rd _ rfl _ _ 40 rfl (V := I64) (fun _ => rfl) w.heap.size 3 (.int .i64 0) 8 Tryz.underlying40 infoInt rfl _ acc rfl ?_ _ [(x : Int)] rfl ?_ ?_ ?_ ?_ ?_)
        case refine_1 => exact Own.alloc hown1 _
        case refine_2 => exact Rd.new [(x : Int)] rfl rfl (Nat.le_refl _) (by decide) rfl
        case refine_3 => have := hal.out; simp; omega
        case refine_4 => have := hal.out; simp; omega
        case refine_5 => have := hG2.size; simp; omega
        intro v2 w2 hown2 hg2 hv2
        have hrow : ∀ g, (Value.slice ao m cap).ownBlock = some g → w.heap.size ≤ g := fun g hg => (hlt3.out g hg).1
        have hS2 : StA 58 w2 b st' := (StA.keep hS1 (Bel.al (Below.refl _ _) _)).row hg2 (fun g hg => by have := hrow g hg; omega)
        have hG3 : w.grownBy w2 (some b) := Gb.toOwn (Gb.alloc hG2 _) hg2 hrow
        obtain ⟨ao2, n2, cap2, rfl⟩ := Rd.shape hown2.rd
        clear hg2 hv2 hS1 hG2 hown1 hrow
        go_wp2
        go_roundg (k - (j + 1))
        case measure => have := hg.out; have := hlt2.out; omega
        case rel => exact ⟨j + 1, acc ++ [(x : Int)], st', ao2, n2, cap2, rfl, by have := hlt2.out; omega, by go_num, rfl, hown2, hS2, hG3, by have := hal.out; show _ = _; simp; omega, hD2⟩
      · rw [if_pos hc] at hD2
        have hcn : (c != 0) = true := by simpa using hc
        replace hc := hide hc
        subst hD2
        clear hR
        go_wp2_with fail
        refine cc.out.mono ?_
        rintro e w1 ⟨rfl, hS1, hG1⟩
        go_wp2
        go_ret2
        exact ⟨_, rfl, Own.nil _ _ _, hS1, Gb.to hG hG1⟩
    · have hjk : j = k := by omega
      subst hjk
      have hD2 := hD.out
      rw [Nat.sub_self, drawL] at hD2
      subst hD2
      clear hD hR
      go_wp2
      go_ret2
      exact ⟨_, rfl, hown, hS, hG⟩

set_option maxHeartbeats 2000000 in
set_option maxRecDepth 100000 in
theorem rdigits_any (b n k : Nat) (s : St) (w : World) (h : StA 60 w b s) (h1 : 1 ≤ n) (h2 : n ≤ 2147483648) (hk : k ≤ 1000) :
    Calls Tryz.prog 29 #[.pointer (some ⟨b, 0, none⟩), .int .i64 (n : Int), .int .i64 (k : Int)] w (ListS 60 b (drawL k n [] s) w) := by
  obtain ⟨R, hR⟩ : ∃ R, R = drawL k n [] s := ⟨_, rfl⟩
  rw [← hR]
  replace hR := hide hR.symm
  have hb := h.lt
  have cb := hide (fun (st : St) X (hX : StA 60 X b st) => rbelow_any b n st X hX h1 h2)
  have hN := hide h1
  have hh := hide h
  clear h h1 h2
  go_enter Tryz.func29, Tryz.ntmps29
  go_wp2
  go_loopg [8, 9] k (fun gh v i wr => ∃ (j : Nat) (acc : List Int) (st : St) (ao : Option Addr) (m cap : Nat), gh = k - j ∧ j ≤ k ∧ i = .int .i64 (j : Int) ∧ v = .slice ao m cap ∧ Own I64 wr w.heap.size 3 (.slice ao m cap) acc ∧ StA 60 wr b st ∧ w.grownBy wr (some b) ∧ Hid (acc.length = j) ∧ Hid (drawL (k - j) n acc st = R))
  case atStart => exact ⟨0, [], s, none, 0, 0, rfl, Nat.zero_le _, rfl, rfl, Own.nil _ _ _, hh.out, Gb.refl _ _, rfl, hR⟩
  case round =>
    obtain ⟨j, acc, st, ao, m, cap, hg, hj, rfl, rfl, hown, hS, hG, hal, hD⟩ := hrel
    replace hg := hide hg
    by_cases hlt : j < k
    · have hlt2 := hide hlt
      have cc := cb.out st wr hS
      have hcode := hide (belowS_code n st hN.out)
      have hD2 := hD.out
      rw [show k - j = (k - j - 1) + 1 by omega, drawL] at hD2
      obtain ⟨B, hB⟩ : ∃ B, B = belowS n st := ⟨_, rfl⟩
      rw [← hB] at cc hD2 hcode
      clear hB hD
      obtain ⟨⟨x, c⟩, st'⟩ := B
      simp only [] at cc hD2 hcode
      replace cc := hide cc
      have hlt3 := World.ownsRow.lt hown
      by_cases hc : c = 0
      · subst hc
        rw [if_neg (by simp)] at hD2
        replace hD2 := hide hD2
        replace hcode := hide hcode
        replace hlt3 := hide hlt3
        go_wp2_with fail
        refine cc.out.mono ?_
        rintro e w1 ⟨rfl, hS1, hG1⟩
        have hown1 : Own I64 w1 w.heap.size 3 (.slice ao m cap) acc := hown.grown hG1 (by cases hv : (Value.slice ao m cap).ownBlock with | none => exact .inl rfl | some g => exact .inr (fun e => by injection e with e; have := (hlt3.out g hv).1; omega))
        have hG2 := Gb.to hG hG1
        clear hown hG hG1 hS
        go_wp2_with (with_reducible refine wpList_append_rd _ rfl _ _ 40 rfl (V := I64) (fun _ => rfl) w.heap.size 3 (.int .i64 0) 8 Tryz.underlying40 infoInt rfl _ acc rfl ?_ _ [(x : Int)] rfl ?_ ?_ ?_ ?_ ?_)
        case refine_1 => exact Own.alloc hown1 _
        case refine_2 => exact Rd.new [(x : Int)] rfl rfl (Nat.le_refl _) (by decide) rfl
        case refine_3 => have := hal.out; simp; omega
        case refine_4 => have := hal.out; simp; omega
        case refine_5 => have := hG2.size; simp; omega
        intro v2 w2 hown2 hg2 hv2
        have hrow : ∀ g, (Value.slice ao m cap).ownBlock = some g → w.heap.size ≤ g := fun g hg => (hlt3.out g hg).1
        have hS2 : StA 60 w2 b st' := (StA.keep hS1 (Bel.al (Below.refl _ _) _)).row hg2 (fun g hg => by have := hrow g hg; omega)
        have hG3 : w.grownBy w2 (some b) := Gb.toOwn (Gb.alloc hG2 _) hg2 hrow
        obtain ⟨ao2, n2, cap2, rfl⟩ := Rd.shape hown2.rd
        clear hg2 hv2 hS1 hG2 hown1 hrow
        go_wp2
        go_roundg (k - (j + 1))
        case measure => have := hg.out; have := hlt2.out; omega
        case rel => exact ⟨j + 1, acc ++ [(x : Int)], st', ao2, n2, cap2, rfl, by have := hlt2.out; omega, by go_num, rfl, hown2, hS2, hG3, by have := hal.out; show _ = _; simp; omega, hD2⟩
      · rw [if_pos hc] at hD2
        have hcn : (c != 0) = true := by simpa using hc
        replace hc := hide hc
        subst hD2
        clear hR
        go_wp2_with fail
        refine cc.out.mono ?_
        rintro e w1 ⟨rfl, hS1, hG1⟩
        go_wp2
        go_ret2
        exact ⟨_, rfl, Own.nil _ _ _, hS1, Gb.to hG hG1⟩
    · have hjk : j = k := by omega
      subst hjk
      have hD2 := hD.out
      rw [Nat.sub_self, drawL] at hD2
      subst hD2
      clear hD hR
      go_wp2
      go_ret2
      exact ⟨_, rfl, hown, hS, hG⟩

end Go.Proofs.YtokhhccokjfgjaaGreat
end

section
/- stream.ascending; a step of a sample. Condition: at most 4096 numbers. -/
open Go.RowKit
set_option linter.unusedVariables false
set_option linter.unusedSimpArgs false
namespace Go.Proofs.YtokhhccokjfgjaaGreat

theorem asc_set {n k : Nat} (h : k < n) : (ascL k ++ List.replicate (n - k) 0).set k ((k : Int) + 1) = ascL (k + 1) ++ List.replicate (n - (k + 1)) 0 := by
  rw [ascL_succ, List.set_append_right _ _ (by rw [ascL_len]; omega), ascL_len, Nat.sub_self]
  obtain ⟨m, hm⟩ : ∃ m, n - k = m + 1 := ⟨n - k - 1, by omega⟩
  rw [hm, show n - (k + 1) = m by omega, List.replicate_succ, List.set_cons_zero, List.append_assoc]; rfl

/-- A new row is handed back. -/
def NewRow (l : List Int) (w : World) (e : Ending) (w' : World) : Prop := e = .returned (.slice (some ⟨w.heap.size, 0, none⟩) l.length l.length) ∧ Row w' w.heap.size 3 (l.map I64) ∧ Below w.heap.size w w' ∧ w'.heap.size = w.heap.size + 1

set_option maxHeartbeats 2000000 in
set_option maxRecDepth 100000 in
theorem ascending_any (n : Nat) (w : World) (hn : n ≤ 4096) : Calls Tryz.prog 46 #[.int .i64 (n : Int)] w (NewRow (ascL n) w) := by
  go_enter Tryz.func46, Tryz.ntmps46
  go_wp2_with (with_reducible refine wpList_make_row _ rfl _ _ 40 rfl 3 (.int .i64 0) 8 Tryz.underlying40 infoInt rfl .i64 .i64 _ _ n n rfl rfl (by omega) (by omega) (Nat.le_refl _) (by omega) (by omega) ?_; intro W hrow bW sW)
  obtain ⟨g, hg⟩ : ∃ g, g = w.heap.size := ⟨_, rfl⟩
  rw [← hg] at hrow ⊢
  have hz : w.heap.size ≤ g := by omega
  replace hg := hide hg
  replace sW := hide sW
  go_wp2
  go_loopg [9] n (fun gh t wr => ∃ k : Nat, gh = n - k ∧ k ≤ n ∧ t = .int .i64 (k : Int) ∧ Row wr g 3 ((ascL k ++ List.replicate (n - k) 0).map I64) ∧ Below w.heap.size w wr ∧ Hid (wr.heap.size = w.heap.size + 1))
  case atStart => exact ⟨0, rfl, Nat.zero_le _, rfl, by simpa [ascL, List.map_replicate] using hrow, bW, sW⟩
  case round =>
    obtain ⟨k, hgh, hk, rfl, hR, hB, hS⟩ := hrel
    replace hgh := hide hgh
    by_cases hlt : k < n
    · have hlt2 := hide hlt
      have j1 : (0 : Int) ≤ (k : Int) := by omega
      have j2 : (k : Int) < (n : Int) := by omega
      obtain ⟨y, c1⟩ : ∃ y, wr.cell? ⟨g, k, none⟩ = some (I64 y) := ⟨_, hR.cellV (i := k) (by rw [List.length_append, ascL_len, List.length_replicate]; omega)⟩
      have f1 := Row.frozen hR k
      have hR2 := hR.setV k ((k : Int) + 1)
      rw [asc_set hlt] at hR2
      have hB2 := Bel.st hB (p := ⟨g, k, none⟩) hz (I64 ((k : Int) + 1))
      have hS2 : Hid ((wr.setCell ⟨g, k, none⟩ (I64 ((k : Int) + 1))).heap.size = w.heap.size + 1) := by have := hS.out; show _ = _; simpa [World.setCell] using this
      replace hR2 := hide hR2
      clear hB
      go_wp2
      go_roundg (n - (k + 1))
      case measure => have := hgh.out; have := hlt2.out; omega
      case rel => exact ⟨k + 1, rfl, by have := hlt2.out; omega, by go_num, hR2.out, hB2, hS2⟩
    · have hkn : k = n := by omega
      subst hkn
      rw [Nat.sub_self, List.replicate_zero, List.append_nil] at hR
      have hl := ascL_len k
      go_wp2
      go_ret
      unfold NewRow
      rw [hl, ← hg.out]
      exact ⟨rfl, hR, by rw [hg.out]; exact hB, by have := hS.out; rw [hg.out]; exact this⟩

/-- Two blocks turned, new ones laid. -/
structure Gb2 (w w' : World) (b g : Nat) : Prop where
  os : w'.os = w.os
  tape : w'.tape = w.tape
  output : w'.output = w.output
  size : w.heap.size ≤ w'.heap.size
  block : ∀ i, i < w.heap.size → i ≠ b → i ≠ g → w'.heap[i]? = w.heap[i]?

set_option maxHeartbeats 4000000 in
set_option maxRecDepth 100000 in
theorem sstep_bad (b n i sb nb lb g : Nat) (s s' : St) (c : Int) (w : World) (h : StA 58 w b s) (hs : w.cell? ⟨sb, 0, none⟩ = some (.pointer (some ⟨b, 0, none⟩))) (hn : w.cell? ⟨nb, 0, none⟩ = some (.int .i64 (n : Int)))
    (hi : i < n) (hn2 : n ≤ 4096) (hB : belowS (n - i) s = ((0, c), s')) (hc : c ≠ 0) :
    Calls Tryz.prog 47 #[.int .i64 (i : Int), .pointer (some ⟨sb, 0, none⟩), .pointer (some ⟨nb, 0, none⟩), .pointer (some ⟨lb, 0, none⟩)] w (PostS 58 (.int .i64 c) b s' w) := by
  have cb := sbelow_any b (n - i) s w h (by omega) (by omega)
  rw [hB] at cb
  have e : ((n - i : Nat) : Int) = (n : Int) - (i : Int) := by omega
  rw [e] at cb
  replace cb := hide cb
  have hcz : (c == 0) = false := by simpa using hc
  replace hc := hide hc
  clear h hB e
  have j1 : (0 : Int) ≤ (i : Int) := by omega
  have j2 : (i : Int) < (n : Int) := by omega
  have j3 : (n : Int) ≤ 4096 := by omega
  go_enter Tryz.func47, Tryz.ntmps47
  go_wp2_with fail
  refine cb.out.mono ?_
  rintro e w1 ⟨rfl, hS1, hG1⟩
  go_wp2
  go_ret
  exact ⟨rfl, hS1, hG1⟩

set_option maxHeartbeats 4000000 in
set_option maxRecDepth 100000 in
theorem sstep_ok (b n i j sb nb lb g cap : Nat) (L : List Int) (s s' : St) (w : World) (h : StA 58 w b s) (hs : w.cell? ⟨sb, 0, none⟩ = some (.pointer (some ⟨b, 0, none⟩))) (hn : w.cell? ⟨nb, 0, none⟩ = some (.int .i64 (n : Int)))
    (hl : w.cell? ⟨lb, 0, none⟩ = some (.slice (some ⟨g, 0, none⟩) n cap)) (hR : Row w g 3 (L.map I64)) (hL : L.length = n) (hgb : g ≠ b) (hlb : lb ≠ b) (hlg : lb ≠ g)
    (hi : i < n) (hj : i + j < n) (hn2 : n ≤ 4096) (hB : belowS (n - i) s = ((j, 0), s')) :
    Calls Tryz.prog 47 #[.int .i64 (i : Int), .pointer (some ⟨sb, 0, none⟩), .pointer (some ⟨nb, 0, none⟩), .pointer (some ⟨lb, 0, none⟩)] w (fun e w' => e = .returned (.int .i64 0) ∧ StA 58 w' b s' ∧ Row w' g 3 ((swapL L i (i + j)).map I64) ∧ Gb2 w w' b g) := by
  have cb := sbelow_any b (n - i) s w h (by omega) (by omega)
  rw [hB] at cb
  have e : ((n - i : Nat) : Int) = (n : Int) - (i : Int) := by omega
  rw [e] at cb
  replace cb := hide cb
  clear h hB e
  have j1 : (0 : Int) ≤ (i : Int) := by omega
  have j2 : (i : Int) < (n : Int) := by omega
  have j3 : (n : Int) ≤ 4096 := by omega
  have hlt := World.block_lt_of_cell? w _ hl
  have hRl := hide hR
  replace hL := hide hL
  go_enter Tryz.func47, Tryz.ntmps47
  go_wp2_with fail
  refine cb.out.mono ?_
  rintro e w1 ⟨rfl, hS1, hG1⟩
  have hR1 : Row w1 g 3 (L.map I64) := hRl.out.grown hG1 (by intro e; injection e with e; exact hgb e)
  have l1 : w1.cell? ⟨lb, 0, none⟩ = some (.slice (some ⟨g, 0, none⟩) n cap) := Gb.cellOf hG1 hl hlb
  obtain ⟨x, hx, cx⟩ : ∃ x, x = L[i]'(by have := hL.out; omega) ∧ w1.cell? ⟨g, i, none⟩ = some (.int .i64 x) := ⟨_, rfl, hR1.cellV _⟩
  obtain ⟨y, hy, cy⟩ : ∃ y, y = L[i + j]'(by have := hL.out; omega) ∧ w1.cell? ⟨g, i + j, none⟩ = some (.int .i64 y) := ⟨_, rfl, hR1.cellV _⟩
  have fx := Row.frozen hR1 i
  have fy := Row.frozen hR1 (i + j)
  have k1 : (0 : Int) ≤ (i : Int) + (j : Int) := by omega
  have k2 : (i : Int) + (j : Int) < (n : Int) := by omega
  have kw : IntKind.i64.wrap ((i : Int) + (j : Int)) = (i : Int) + (j : Int) := IntWalk.i64_in _ (by omega)
  have kn : ((i : Int) + (j : Int)).toNat = i + j := by omega
  replace hx := hide hx
  replace hy := hide hy
  replace hR1 := hide hR1
  obtain ⟨v', hv'⟩ := cell?_setCell_some (w := w1) (p := ⟨g, i, none⟩) (x := .int .i64 y) (q := ⟨g, i + j, none⟩) (v := .int .i64 y) cy
  clear cb hR hRl hs hn hl
  go_upto_region 3 with (fail)
  go_region
  all_goals go_wp2
  go_ret
  obtain ⟨W, hW⟩ : ∃ W, W = ((w1.setCell ⟨g, i, none⟩ (.int .i64 y)).setCell ⟨g, i + j, none⟩ (.int .i64 x)) := ⟨_, rfl⟩
  have q1 : StA 58 W b s' := by
    rw [hW]
    exact Row.far (Row.far hS1 (by simpa using fun e => hgb e.symm) _) (by simpa using fun e => hgb e.symm) _
  have q2 : Row W g 3 ((swapL L i (i + j)).map I64) := by
    have h1 := (hR1.out.setV i y).setV (i + j) x
    have e : swapL L i (i + j) = (L.set i y).set (i + j) x := by
      unfold swapL
      have := hL.out
      rw [List.getElem?_eq_getElem (by omega), List.getElem?_eq_getElem (by omega), hx.out, hy.out]
      rfl
    rw [hW, e]
    exact h1
  have q3 : Gb2 w W b g := by
    rw [hW]
    refine ⟨hG1.os, hG1.tape, hG1.output, ?_, fun t ht n1 n2 => ?_⟩
    · have := hG1.size
      simpa [World.setCell] using this
    · have e1 := hG1.block t ht (by intro e; injection e with e; exact n1 e)
      rw [Below.heap_setCell _ _ _ t (fun e => n2 e), Below.heap_setCell _ _ _ t (fun e => n2 e)]
      exact e1
  rw [← hW]
  exact ⟨rfl, q1, q2, ⟨q3.os, q3.tape, q3.output, q3.size, q3.block⟩⟩

set_option maxHeartbeats 4000000 in
set_option maxRecDepth 100000 in
theorem ssample_any (b n k : Nat) (s : St) (w : World) (h : StA 58 w b s) (hk : k ≤ n) (hn : n ≤ 1000) :
    Calls Tryz.prog 28 #[.pointer (some ⟨b, 0, none⟩), .int .i64 (n : Int), .int .i64 (k : Int)] w (ListS 58 b (sampleS n k s) w) := by
  obtain ⟨R, hR⟩ : ∃ R, R = sampleL k 0 n (ascL n) s := ⟨_, rfl⟩
  have hS0 : sampleS n k s = ((R.1.1.take k, R.1.2), R.2) := by rw [hR]; rfl
  rw [hS0]
  clear hS0
  replace hR := hide hR.symm
  have hb := h.lt
  have ca := hide (fun X => ascending_any n X (by omega))
  have hh := hide h
  have hkn := hide hk
  have hnn := hide hn
  have a1 : (0 : Int) ≤ (n : Int) := by omega
  have a2 : (n : Int) ≤ 1000 := by omega
  have a3 : (0 : Int) ≤ (k : Int) := by omega
  have a4 : (k : Int) ≤ (n : Int) := by omega
  clear h hk hn
  go_enter Tryz.func28, Tryz.ntmps28
  go_upto_region 1 with (fail)
  obtain ⟨W, hW⟩ : ∃ W, W = ((w.alloc (Obj.cells #[.pointer (some ⟨b, 0, none⟩)] 35)).alloc (Obj.cells #[.int .i64 (n : Int)] 3)) := ⟨_, rfl⟩
  have bW : Below w.heap.size w W := by rw [hW]; exact Bel.al (Bel.al (Below.refl _ _) _) _
  have r0 : Row W ((w.heap.size)) 35 [.pointer (some ⟨b, 0, none⟩)] := by rw [hW]; exact Row.alloc (Row.new _ _ _) _
  have r1 : Row W ((w.heap.size + 1)) 3 [.int .i64 (n : Int)] := by rw [hW]; exact Row.at2 _ _ _ _
  have sW : w.heap.size + 1 < W.heap.size := by rw [hW]; simp
  rw [← hW]
  clear hW
  have c0 := r0.cell (i := 0) (by simp)
  have c1 := r1.cell (i := 0) (by simp)
  simp only [List.getElem_cons_zero] at c0 c1
  go_wp2_with fail
  refine (ca.out _).mono ?_
  rintro e w1 ⟨rfl, hRow, hB, hz⟩
  rw [ascL_len]
  have bW1 := Bel.to bW hB
  replace r0 := r0.keep hB
  replace r1 := r1.keep hB
  have hlb : w1.heap.size = W.heap.size + 1 := hz
  replace hz := hide hz
  have hhS := hide (hh.out.keep bW1)
  clear hh
  go_upto_region 7 with (fail)
  obtain ⟨W2, hW2⟩ : ∃ W2, W2 = w1.alloc (Obj.cells #[.slice (some ⟨W.heap.size, 0, none⟩) n n] 40) := ⟨_, rfl⟩
  have bW2 : Below w1.heap.size w1 W2 := by rw [hW2]; exact Bel.al (Below.refl _ _) _
  have r2 : Row W2 w1.heap.size 40 [.slice (some ⟨W.heap.size, 0, none⟩) n n] := by rw [hW2]; exact Row.new _ _ _
  rw [hlb] at r2
  rw [← hW2]
  clear hW2
  replace r0 := r0.keep bW2
  replace r1 := r1.keep bW2
  replace hRow := hRow.keep bW2
  have hS0 := hhS.out.keep bW2
  have hG0 := Gb.ofBelow (Bel.to bW1 bW2) (some b)
  obtain ⟨g, hg⟩ : ∃ g, g = W.heap.size := ⟨_, rfl⟩
  have hgw : w.heap.size + 1 < g := by omega
  rw [← hg] at r2 hRow ⊢
  clear hlb c0 c1 hhS bW2 bW1 hB bW sW
  replace hg := hide hg
  replace hgw := hide hgw
  go_wp2
  go_loopg [33] k (fun gh t wr => ∃ (i : Nat) (L : List Int) (st : St), gh = k - i ∧ i ≤ k ∧ t = .int .i64 (i : Int) ∧ Row wr g 3 (L.map I64) ∧ StA 58 wr b st ∧ Row wr w.heap.size 35 [.pointer (some ⟨b, 0, none⟩)] ∧ Row wr (w.heap.size + 1) 3 [.int .i64 (n : Int)] ∧ Row wr (g + 1) 40 [.slice (some ⟨g, 0, none⟩) n n] ∧ w.grownBy wr (some b) ∧ Hid (L.length = n) ∧ Hid (sampleL (k - i) i n L st = R))
  case atStart => exact ⟨0, ascL n, s, rfl, Nat.zero_le _, rfl, hRow, hS0, r0, r1, r2, hG0, ascL_len n, hR⟩
  case round =>
    obtain ⟨i, L, st, hgh, hi, rfl, hL, hS, r0, r1, r2, hG, hlen, hD⟩ := hrel
    replace hgh := hide hgh
    have c0 := r0.cell (i := 0) (by simp)
    have c1 := r1.cell (i := 0) (by simp)
    have c2 := r2.cell (i := 0) (by simp)
    simp only [List.getElem_cons_zero] at c0 c1 c2
    by_cases hlt : i < k
    · have hlt2 := hide hlt
      have hin : i < n := by have := hkn.out; omega
      have hcode := belowS_code (n - i) st (by omega)
      obtain ⟨B, hB⟩ : ∃ B, B = belowS (n - i) st := ⟨_, rfl⟩
      have hD2 := hD.out
      rw [show k - i = (k - i - 1) + 1 by omega, sampleL, ← hB] at hD2
      rw [← hB] at hcode
      obtain ⟨⟨x, c⟩, st'⟩ := B
      simp only [] at hD2 hcode
      by_cases hc : c = 0
      · subst hc
        have hx : x < n - i := by omega
        have cS := sstep_ok b n i x w.heap.size (w.heap.size + 1) (g + 1) g n L st st' wr hS c0 c1 c2 hL hlen.out (by have := hgw.out; omega) (by have := hgw.out; omega) (by omega) hin (by omega) (by have := hnn.out; omega) hB.symm
        replace cS := hide cS
        rw [if_neg (by simp)] at hD2
        replace hD2 := hide hD2
        clear hcode hB hD hx
        replace hin := hide hin
        go_wp2_with fail
        refine cS.out.mono ?_
        rintro e w2 ⟨rfl, hS2, hL2, hG2⟩
        have e0 : ∀ t, t < wr.heap.size → t ≠ b → t ≠ g → w2.heap[t]? = wr.heap[t]? := hG2.block
        have q0 : Row w2 w.heap.size 35 [.pointer (some ⟨b, 0, none⟩)] := (e0 _ r0.lt (by omega) (by have := hgw.out; omega)).trans r0
        have q1 : Row w2 (w.heap.size + 1) 3 [.int .i64 (n : Int)] := (e0 _ r1.lt (by omega) (by have := hgw.out; omega)).trans r1
        have q2 : Row w2 (g + 1) 40 [.slice (some ⟨g, 0, none⟩) n n] := (e0 _ r2.lt (by have := hgw.out; omega) (by omega)).trans r2
        have hG3 : w.grownBy w2 (some b) := ⟨hG2.os.trans hG.os, hG2.tape.trans hG.tape, hG2.output.trans hG.output, Nat.le_trans hG.size hG2.size, fun t ht hn => (e0 t (Nat.lt_of_lt_of_le ht hG.size) (fun e => hn (by rw [e])) (by have := hgw.out; omega)).trans (hG.block t ht hn)⟩
        clear e0 hG2 hG hS hL r0 r1 r2 c0 c1 c2
        go_wp2
        go_roundg (k - (i + 1))
        case measure => have := hgh.out; have := hlt2.out; omega
        case rel => exact ⟨i + 1, swapL L i (i + x), st', rfl, by have := hlt2.out; omega, by go_num, hL2, hS2, q0, q1, q2, hG3, by have := hlen.out; show _ = _; rw [swapL_len]; exact this, hD2⟩
      · have hx0 : x = 0 := by omega
        subst hx0
        have cS := sstep_bad b n i w.heap.size (w.heap.size + 1) (g + 1) g st st' c wr hS c0 c1 hin (by have := hnn.out; omega) hB.symm hc
        replace cS := hide cS
        rw [if_pos hc] at hD2
        have hcn : (c != 0) = true := by simpa using hc
        subst hD2
        replace hc := hide hc
        clear hcode hB hD hR
        replace hin := hide hin
        go_wp2_with fail
        refine cS.out.mono ?_
        rintro e w2 ⟨rfl, hS2, hG2⟩
        go_wp2
        go_ret2
        exact ⟨.slice none 0 0, rfl, by rw [List.take_nil]; exact Own.nil _ _ _, hS2, Gb.to hG hG2⟩
    · have hik : i = k := by omega
      subst hik
      have hD2 := hD.out
      rw [Nat.sub_self, sampleL] at hD2
      subst hD2
      clear hD hR
      have hRd : Rd I64 wr (.slice (some ⟨g, 0, none⟩) L.length L.length) L := hL.rdAll rfl (Nat.le_refl _) (by have := hlen.out; have := hnn.out; omega)
      rw [hlen.out] at hRd
      have hle : i ≤ L.length := by have := hlen.out; have := hkn.out; omega
      replace hle := hide hle
      go_wp2_with (with_reducible refine wpList_slice_to (V := I64) rfl _ _ 40 rfl elemInts sizeEI (some ⟨g, 0, none⟩) n n L rfl hlen.out.symm hRd .i64 i rfl hle.out ?_)
      intro v1 hv1
      obtain ⟨a1, n1, k1, rfl⟩ := Rd.shape hv1
      have hlt3 : (L.take i).length ≤ 1000 := by rw [List.length_take]; have := hlen.out; have := hnn.out; omega
      replace hlt3 := hide hlt3
      go_wp2_with (with_reducible refine wpList_append_rd _ rfl _ _ 40 rfl (V := I64) (fun _ => rfl) w.heap.size 3 (.int .i64 0) 8 Tryz.underlying40 infoInt rfl _ [] rfl ?_ _ (L.take i) rfl ?_ ?_ ?_ ?_ ?_)
      case refine_1 => exact Own.nil _ _ _
      case refine_2 => exact hv1
      case refine_3 => have := hlt3.out; simp only [List.length_nil]; omega
      case refine_4 => have := hlt3.out; simp only [List.length_nil]; omega
      case refine_5 => exact hG.size
      intro v2 w2 hown2 hg2 hv2
      have hS2 := hS.row hg2 (fun k hk => by simp [Value.ownBlock] at hk)
      have hG2 := Gb.toOwn hG hg2 (fun k hk => by simp [Value.ownBlock] at hk)
      obtain ⟨a2, n2, k2, rfl⟩ := Rd.shape hown2.rd
      clear hg2 hv2 hv1
      go_wp2
      go_ret2
      exact ⟨_, rfl, hown2, hS2, hG2⟩

/-- A sample in ascending order. -/
def sortS (R : (List Int × Int) × St) : (List Int × Int) × St := ((sortI R.1.1, R.1.2), R.2)

set_option maxHeartbeats 4000000 in
set_option maxRecDepth 100000 in
theorem ssorted_any (b n k : Nat) (s : St) (w : World) (h : StA 58 w b s) (hk : k ≤ n) (hn : n ≤ 1000) :
    Calls Tryz.prog 27 #[.func (.func 28) #[.pointer (some ⟨b, 0, none⟩)] #[], .int .i64 (n : Int), .int .i64 (k : Int)] w (ListS 58 b (sortS (sampleS n k s)) w) := by
  have cs := hide (ssample_any b n k s w h hk hn)
  have hf := sampleS_facts (n := n) (k := k) (s := s) hk
  have hbad : (sampleS n k s).1.2 ≠ 0 → (sampleS n k s).1.1 = [] := fun h => by
    show (sampleL k 0 n (ascL n) s).1.1.take k = []
    rw [sampleL_bad h, List.take_nil]
  obtain ⟨R, hR⟩ : ∃ R, R = sampleS n k s := ⟨_, rfl⟩
  rw [← hR] at cs hf hbad ⊢
  clear hR
  have hb := h.lt
  clear h
  obtain ⟨⟨l, c⟩, st⟩ := R
  unfold sortS
  simp only [] at hf hbad ⊢
  by_cases hc : c = 0
  · subst hc
    have hl : l.length ≤ 1000 := by have := (hf rfl).1; omega
    clear hf hbad
    go_enter Tryz.func27, Tryz.ntmps27
    go_wp2_with fail
    refine cs.out.mono ?_
    rintro e w1 ⟨v, rfl, hown, hS, hG⟩
    have cq := hide (sort_own v l w.heap.size w1 hown (by omega))
    have hlt := hown.lt
    obtain ⟨a1, n1, k1, rfl⟩ := Rd.shape hown.rd
    replace hlt := hide hlt
    go_wp2_with fail
    refine cq.out.mono ?_
    rintro e w2 ⟨rfl, hown2, hg2⟩
    have hS2 := hS.row hg2 (fun k hk => by have := (hlt.out k hk).1; omega)
    have hG2 := Gb.toOwn hG hg2 (fun k hk => (hlt.out k hk).1)
    go_wp2
    go_ret2
    exact ⟨_, rfl, hown2, hS2, hG2⟩
  · have hl : l = [] := hbad hc
    subst hl
    have hcn : (c != 0) = true := by simpa using hc
    replace hc := hide hc
    clear hf hbad
    rw [sortI_nil]
    go_enter Tryz.func27, Tryz.ntmps27
    go_wp2_with fail
    refine cs.out.mono ?_
    rintro e w1 ⟨v, rfl, hown, hS, hG⟩
    obtain ⟨a1, n1, k1, rfl⟩ := Rd.shape hown.rd
    go_wp2
    go_ret2
    exact ⟨.slice none 0 0, rfl, Own.nil _ _ _, hS, hG⟩
end Go.Proofs.YtokhhccokjfgjaaGreat
end

section
/- quickpick.Line: a quick pick of a game. No condition. -/
open Go.RowKit
set_option linter.unusedVariables false
set_option linter.unusedSimpArgs false
namespace Go.Proofs.YtokhhccokjfgjaaGreat


theorem collect_int (b : Nat) (n k : Int) (s : St) (w : World) (h : StA 58 w b s) (h1 : 1 ≤ n) (h2 : n ≤ 2147483648) (h3 : 0 ≤ k) (h4 : k ≤ 1000) :
    Calls Tryz.prog 25 #[.func (.func 26) #[.pointer (some ⟨b, 0, none⟩)] #[], .int .i64 n, .int .i64 k] w (ListS 58 b (drawL k.toNat n.toNat [] s) w) := by
  obtain ⟨n, rfl⟩ := Int.eq_ofNat_of_zero_le (show 0 ≤ n by omega)
  obtain ⟨k, rfl⟩ := Int.eq_ofNat_of_zero_le h3
  rw [Int.toNat_natCast, Int.toNat_natCast]
  exact collect_any b n k s w h (by omega) (by omega) (by omega)
theorem ssorted_int (b : Nat) (n k : Int) (s : St) (w : World) (h : StA 58 w b s) (h1 : 0 ≤ k) (h2 : k ≤ n) (h4 : n ≤ 1000) :
    Calls Tryz.prog 27 #[.func (.func 28) #[.pointer (some ⟨b, 0, none⟩)] #[], .int .i64 n, .int .i64 k] w (ListS 58 b (sortS (sampleS n.toNat k.toNat s)) w) := by
  obtain ⟨n, rfl⟩ := Int.eq_ofNat_of_zero_le (show 0 ≤ n by omega)
  obtain ⟨k, rfl⟩ := Int.eq_ofNat_of_zero_le h1
  rw [Int.toNat_natCast, Int.toNat_natCast]
  exact ssorted_any b n k s w h (by omega) (by omega)

/-- A line of the call's own and a code; the generator in a new state. -/
def LineS (t : TypeId) (b : Nat) (R : (LineD × Int) × St) (w : World) (e : Ending) (w' : World) : Prop := ∃ u v, e = .returned (.tuple #[lineVal u v, .int .i64 R.1.2]) ∧ LineR w' u v R.1.1.1 R.1.1.2 ∧ Fr w.heap.size u R.1.1.1 ∧ Fr w.heap.size v R.1.1.2 ∧ StA t w' b R.2 ∧ w.grownBy w' (some b)
/-- No line; a code. -/
def LineN (c : Int) (w : World) (e : Ending) (w' : World) : Prop := e = .returned (.tuple #[lineVal (.slice none 0 0) (.slice none 0 0), .int .i64 c]) ∧ Below w.heap.size w w'

theorem line_stored {w : World} {L : Nat} {u v : Value} {a b : List Int} (r : LineAt w L (.slice none 0 0) (.slice none 0 0)) (hu : Rd I64 w u a) (hv : Rd I64 w v b) :
    LineAt ((w.setCell ⟨L, 0, none⟩ u).setCell ⟨L, 1, none⟩ v) L u v ∧ LineR ((w.setCell ⟨L, 0, none⟩ u).setCell ⟨L, 1, none⟩ v) u v a b ∧ w.grownBy ((w.setCell ⟨L, 0, none⟩ u).setCell ⟨L, 1, none⟩ v) (some L) := by
  have c0 := r.main
  have c1 := r.bonus
  have c1' : (w.setCell ⟨L, 0, none⟩ u).cell? ⟨L, 1, none⟩ = some (.slice none 0 0) := by go_simp
  have n1 : ∀ x, I64 x ≠ Value.slice none 0 0 := fun x h => by cases h
  refine ⟨r.store u v, ⟨(hu.setNe c0 n1 u).setNe c1' n1 v, (hv.setNe c0 n1 u).setNe c1' n1 v⟩, ?_⟩
  have h1 := Gb.set (g := L) (Gb.refl w (some L)) (p := ⟨L, 0, none⟩) (.inl rfl) u
  exact Gb.set (g := L) h1 (p := ⟨L, 1, none⟩) (.inl rfl) v
theorem StA.line {w : World} {b L : Nat} {s : St} {t : TypeId} (h : StA t w b s) (hne : b ≠ L) (u v : Value) : StA t ((w.setCell ⟨L, 0, none⟩ u).setCell ⟨L, 1, none⟩ v) b s := Row.far (Row.far h hne _) hne _

set_option maxHeartbeats 2000000 in
set_option maxRecDepth 100000 in
theorem qline_bad (g : GameD) (av tv : Value) (ms : List AddonM) (p : Option Addr) (w : World) (h : GameR w av tv ms g) (he : gameE g ≠ 0) :
    Calls Tryz.prog 14 #[gameVal g av tv, .pointer p] w (LineN (gameE g) w) := by
  have hc := hide (fun X (hX : GameR X av tv ms g) => mcount_bad g av tv ms X hX he)
  have hh := hide h
  obtain ⟨aa, ac, rfl, hal, ham⟩ := h.1.1.shape
  obtain ⟨ta, tc, rfl, htl, htm⟩ := h.2.2.shape
  clear h
  obtain ⟨c, hcc⟩ : ∃ c, c = gameE g := ⟨_, rfl⟩
  rw [← hcc] at hc he ⊢
  clear hcc
  have hcb : (c != 0) = true := by simpa using he
  replace he := hide he
  unfold gameVal
  go_enter Tryz.func14, Tryz.ntmps14
  go_upto_region 1 with (fail)
  obtain ⟨W, hW⟩ : ∃ W, W = ((w.alloc (Obj.cells #[.string g.name, .int .i64 g.kind, .int .i64 g.price, .int .i64 g.main, .int .i64 g.of, .int .i64 g.bonus, .int .i64 g.bonusOf, .int .i64 g.extra, .int .i64 g.draws, .int .i64 g.system, .int .i64 g.days, .int .i64 g.at_, .int .i64 g.close, .int .i64 g.cancel, .int .i64 g.expiry, .int .i64 g.pool, .int .i64 g.reserve, .int .i64 g.round, .int .i64 g.cap, .int .i64 g.rolls, (.slice aa ms.length ac), (.slice ta g.tiers.length tc)] 25)).alloc (Obj.cells #[(.slice none 0 0), (.slice none 0 0)] 42)) := ⟨_, rfl⟩
  have bW : Below w.heap.size w W := by rw [hW]; exact Bel.al (Bel.al (Below.refl _ _) _) _
  have r0 : GameAt W (w.heap.size) g ((.slice aa ms.length ac)) ((.slice ta g.tiers.length tc)) := by rw [hW]; exact Row.alloc (Row.new _ _ _) _
  have r1 : LineAt W (w.heap.size + 1) ((.slice none 0 0)) ((.slice none 0 0)) := by rw [hW]; exact Row.at2 _ _ _ _
  have sW : w.heap.size + 1 < W.heap.size := by rw [hW]; simp
  rw [← hW]
  clear hW
  go_wp2_with (first | (refine wpList_load_row rfl 25 _ rfl _ rfl _ _ _ _ r0 Tryz.underlying25 rfl (by kernel_rfl) ?_) | fail)
  refine (hc.out _ (hh.out.below bW)).mono ?_
  rintro e w1 ⟨rfl, hb1⟩
  have B1 := Bel.to bW hb1
  have r0 := r0.keep hb1
  have r1 := r1.keep hb1
  have z1 : w.heap.size + 1 < w1.heap.size := by have := hb1.size; omega
  clear hb1
  have x0 := LineAt.main r1
  have x1 := LineAt.bonus r1
  have x2 := Row.frozen r1 0
  have x3 := Row.frozen r1 1
  have rL : LineAt ((w1.setCell ⟨w.heap.size + 1, 0, none⟩ (.slice none 0 0)).setCell ⟨w.heap.size + 1, 1, none⟩ (.slice none 0 0)) (w.heap.size + 1) (.slice none 0 0) (.slice none 0 0) := LineAt.store r1 _ _
  have y0 := hide rL.main
  have y1 := hide rL.bonus
  have B9 := Bel.st (Bel.st B1 (p := ⟨w.heap.size + 1, 0, none⟩) (by simp) (.slice none 0 0)) (p := ⟨w.heap.size + 1, 1, none⟩) (by simp) (.slice none 0 0)
  clear rL
  go_wp2
  exact bodyPost_ret (v := .tuple #[.agg #[.slice none 0 0, .slice none 0 0], .int .i64 c]) (by simp [results, Tryz.results14, go_sem, y0.out, y1.out]) rfl ⟨rfl, B9⟩

set_option maxHeartbeats 2000000 in
set_option maxRecDepth 100000 in
theorem qline_nil (g : GameD) (av tv : Value) (ms : List AddonM) (w : World) (h : GameR w av tv ms g) (he : gameE g = 0) :
    Calls Tryz.prog 14 #[gameVal g av tv, .pointer none] w (LineN 5 w) := by
  have hc := hide (fun X (hX : GameR X av tv ms g) => mcount_ok g av tv ms X hX he)
  have hh := hide h
  obtain ⟨aa, ac, rfl, hal, ham⟩ := h.1.1.shape
  obtain ⟨ta, tc, rfl, htl, htm⟩ := h.2.2.shape
  clear h
  replace he := hide he
  unfold gameVal
  go_enter Tryz.func14, Tryz.ntmps14
  go_upto_region 1 with (fail)
  obtain ⟨W, hW⟩ : ∃ W, W = ((w.alloc (Obj.cells #[.string g.name, .int .i64 g.kind, .int .i64 g.price, .int .i64 g.main, .int .i64 g.of, .int .i64 g.bonus, .int .i64 g.bonusOf, .int .i64 g.extra, .int .i64 g.draws, .int .i64 g.system, .int .i64 g.days, .int .i64 g.at_, .int .i64 g.close, .int .i64 g.cancel, .int .i64 g.expiry, .int .i64 g.pool, .int .i64 g.reserve, .int .i64 g.round, .int .i64 g.cap, .int .i64 g.rolls, (.slice aa ms.length ac), (.slice ta g.tiers.length tc)] 25)).alloc (Obj.cells #[(.slice none 0 0), (.slice none 0 0)] 42)) := ⟨_, rfl⟩
  have bW : Below w.heap.size w W := by rw [hW]; exact Bel.al (Bel.al (Below.refl _ _) _) _
  have r0 : GameAt W (w.heap.size) g ((.slice aa ms.length ac)) ((.slice ta g.tiers.length tc)) := by rw [hW]; exact Row.alloc (Row.new _ _ _) _
  have r1 : LineAt W (w.heap.size + 1) ((.slice none 0 0)) ((.slice none 0 0)) := by rw [hW]; exact Row.at2 _ _ _ _
  have sW : w.heap.size + 1 < W.heap.size := by rw [hW]; simp
  rw [← hW]
  clear hW
  go_wp2_with (first | (refine wpList_load_row rfl 25 _ rfl _ rfl _ _ _ _ r0 Tryz.underlying25 rfl (by kernel_rfl) ?_) | fail)
  refine (hc.out _ (hh.out.below bW)).mono ?_
  rintro e w1 ⟨rfl, hb1⟩
  have B1 := Bel.to bW hb1
  have r0 := r0.keep hb1
  have r1 := r1.keep hb1
  have z1 : w.heap.size + 1 < w1.heap.size := by have := hb1.size; omega
  clear hb1
  have x0 := LineAt.main r1
  have x1 := LineAt.bonus r1
  have x2 := Row.frozen r1 0
  have x3 := Row.frozen r1 1
  have rL : LineAt ((w1.setCell ⟨w.heap.size + 1, 0, none⟩ (.slice none 0 0)).setCell ⟨w.heap.size + 1, 1, none⟩ (.slice none 0 0)) (w.heap.size + 1) (.slice none 0 0) (.slice none 0 0) := LineAt.store r1 _ _
  have y0 := hide rL.main
  have y1 := hide rL.bonus
  have B9 := Bel.st (Bel.st B1 (p := ⟨w.heap.size + 1, 0, none⟩) (by simp) (.slice none 0 0)) (p := ⟨w.heap.size + 1, 1, none⟩) (by simp) (.slice none 0 0)
  clear rL
  go_wp2
  exact bodyPost_ret (v := .tuple #[.agg #[.slice none 0 0, .slice none 0 0], .int .i64 5]) (by simp [results, Tryz.results14, go_sem, y0.out, y1.out]) rfl ⟨rfl, B9⟩

set_option maxHeartbeats 4000000 in
set_option maxRecDepth 100000 in
theorem qline_digits (g : GameD) (av tv : Value) (ms : List AddonM) (b : Nat) (s : St) (w : World) (h : GameR w av tv ms g) (hs : StA 58 w b s) (he : gameE g = 0) (hk : g.kind = 2) :
    Calls Tryz.prog 14 #[gameVal g av tv, .pointer (some ⟨b, 0, none⟩)] w (LineS 58 b (lineQ g s) w) := by
  have hc := hide (fun X (hX : GameR X av tv ms g) => mcount_ok g av tv ms X hX he)
  obtain ⟨f1, f2, f3, f4, f5, f6, f7, f8, f9, f10, f11⟩ := mat_facts (game_mat he)
  have hb := hs.lt
  have hh := hide h
  obtain ⟨aa, ac, rfl, hal, ham⟩ := h.1.1.shape
  obtain ⟨ta, tc, rfl, htl, htm⟩ := h.2.2.shape
  clear h
  have hq : lineQ g s = ((((drawL g.main.toNat g.of.toNat [] s).1.1, []), (drawL g.main.toNat g.of.toNat [] s).1.2), (drawL g.main.toNat g.of.toNat [] s).2) := by unfold lineQ; rw [if_pos hk]
  rw [hq]
  obtain ⟨e1, e2⟩ := f7 hk
  have cc := hide (fun X (hX : StA 58 X b s) => collect_int b g.of g.main s X hX (by omega) (by omega) (by omega) (by omega))
  have hbad : (drawL g.main.toNat g.of.toNat [] s).1.2 ≠ 0 → (drawL g.main.toNat g.of.toNat [] s).1.1 = [] := fun h => drawL_bad h
  obtain ⟨R, hR⟩ : ∃ R, R = drawL g.main.toNat g.of.toNat [] s := ⟨_, rfl⟩
  rw [← hR] at cc hbad ⊢
  obtain ⟨⟨l, c⟩, st⟩ := R
  have hs := hide hs
  have hkb : (g.kind == 2) = true := by simpa using hk
  replace hk := hide hk
  replace he := hide he
  clear hq hR f1 f2 f3 f4 f5 f6 f7 f8 f9 f10 f11 e1 e2
  simp only [] at hbad ⊢
  unfold gameVal
  go_enter Tryz.func14, Tryz.ntmps14
  go_upto_region 1 with (fail)
  obtain ⟨W, hW⟩ : ∃ W, W = ((w.alloc (Obj.cells #[.string g.name, .int .i64 g.kind, .int .i64 g.price, .int .i64 g.main, .int .i64 g.of, .int .i64 g.bonus, .int .i64 g.bonusOf, .int .i64 g.extra, .int .i64 g.draws, .int .i64 g.system, .int .i64 g.days, .int .i64 g.at_, .int .i64 g.close, .int .i64 g.cancel, .int .i64 g.expiry, .int .i64 g.pool, .int .i64 g.reserve, .int .i64 g.round, .int .i64 g.cap, .int .i64 g.rolls, (.slice aa ms.length ac), (.slice ta g.tiers.length tc)] 25)).alloc (Obj.cells #[(.slice none 0 0), (.slice none 0 0)] 42)) := ⟨_, rfl⟩
  have bW : Below w.heap.size w W := by rw [hW]; exact Bel.al (Bel.al (Below.refl _ _) _) _
  have r0 : GameAt W (w.heap.size) g ((.slice aa ms.length ac)) ((.slice ta g.tiers.length tc)) := by rw [hW]; exact Row.alloc (Row.new _ _ _) _
  have r1 : LineAt W (w.heap.size + 1) ((.slice none 0 0)) ((.slice none 0 0)) := by rw [hW]; exact Row.at2 _ _ _ _
  have sW : w.heap.size + 1 < W.heap.size := by rw [hW]; simp
  rw [← hW]
  clear hW
  go_wp2_with (first | (refine wpList_load_row rfl 25 _ rfl _ rfl _ _ _ _ r0 Tryz.underlying25 rfl (by kernel_rfl) ?_) | fail)
  refine (hc.out _ (hh.out.below bW)).mono ?_
  rintro e w1 ⟨rfl, hb1⟩
  have B1 := Bel.to bW hb1
  have r0 := r0.keep hb1
  have r1 := r1.keep hb1
  have hS := hs.out.keep B1
  have hG := Gb.ofBelow B1 (some b)
  clear hb1 bW sW hh hc hs
  have d1 := r0.kind
  have d3 := r0.main
  have d4 := r0.of
  have d5 := r0.bonus
  have d6 := r0.bonusOf
  go_wp2_with fail
  refine (cc.out _ hS).mono ?_
  rintro e w2 ⟨v, rfl, hown, hS2, hG2⟩
  simp only [] at hown hS2
  have hfr := hide (hown.fr.mono hG.size)
  have hrd := hown.rd
  have z1 : w.heap.size + 1 < w1.heap.size := by have := r1.lt; omega
  have r1 : LineAt w2 (w.heap.size + 1) (.slice none 0 0) (.slice none 0 0) := Row.grown r1 hG2 (by intro e; injection e with e; omega)
  have r0 : GameAt w2 w.heap.size g (.slice aa ms.length ac) (.slice ta g.tiers.length tc) := Row.grown r0 hG2 (by intro e; injection e with e; omega)
  replace hS := hS2
  replace hG := Gb.to hG hG2
  have z2 : w1.heap.size ≤ w2.heap.size := hG2.size
  clear hown hS2 hG2 d1 d3 d4 d5 d6
  by_cases hc : c = 0
  · subst hc
    clear hbad
    obtain ⟨a1, n1, k1, rfl⟩ := Rd.shape hrd
    obtain ⟨hat, hlr, hlg⟩ := line_stored r1 hrd Rd.nil
    have x0 := LineAt.main r1
    have x1 := LineAt.bonus r1
    have x2 := Row.frozen r1 0
    have x3 := Row.frozen r1 1
    have y0 := hide hat.main
    have y1 := hide hat.bonus
    have hS9 := hide (hS.line (L := w.heap.size + 1) (by omega) (.slice a1 n1 k1) (.slice none 0 0))
    have hG9 := hide (Gb.toOwn hG hlg (fun k hk => by injection hk with hk; omega))
    replace hlr := hide hlr
    clear hat hlg hS hG
    go_wp2
    exact bodyPost_ret (v := .tuple #[.agg #[.slice a1 n1 k1, .slice none 0 0], .int .i64 0]) (by simp [results, Tryz.results14, go_sem, y0.out, y1.out]) rfl ⟨_, _, rfl, hlr.out, hfr.out, Fr.nil, hS9.out, hG9.out⟩
  · have hl : l = [] := hbad hc
    subst hl
    have hcn : (c != 0) = true := by simpa using hc
    replace hc := hide hc
    clear hbad hfr
    obtain ⟨a1, n1, k1, rfl⟩ := Rd.shape hrd
    obtain ⟨hat, hlr, hlg⟩ := line_stored r1 Rd.nil Rd.nil
    have x0 := LineAt.main r1
    have x1 := LineAt.bonus r1
    have x2 := Row.frozen r1 0
    have x3 := Row.frozen r1 1
    have y0 := hide hat.main
    have y1 := hide hat.bonus
    have hS9 := hide (hS.line (L := w.heap.size + 1) (by omega) (.slice none 0 0) (.slice none 0 0))
    have hG9 := hide (Gb.toOwn hG hlg (fun k hk => by injection hk with hk; omega))
    replace hlr := hide hlr
    clear hat hlg hS hG
    go_wp2
    exact bodyPost_ret (v := .tuple #[.agg #[.slice none 0 0, .slice none 0 0], .int .i64 c]) (by simp [results, Tryz.results14, go_sem, y0.out, y1.out]) rfl ⟨_, _, rfl, hlr.out, Fr.nil, Fr.nil, hS9.out, hG9.out⟩

set_option maxHeartbeats 8000000 in
set_option maxRecDepth 100000 in
theorem qline_choose (g : GameD) (av tv : Value) (ms : List AddonM) (b : Nat) (s : St) (w : World) (h : GameR w av tv ms g) (hs : StA 58 w b s) (he : gameE g = 0) (hk : g.kind ≠ 2) :
    Calls Tryz.prog 14 #[gameVal g av tv, .pointer (some ⟨b, 0, none⟩)] w (LineS 58 b (lineQ g s) w) := by
  have hc := hide (fun X (hX : GameR X av tv ms g) => mcount_ok g av tv ms X hX he)
  obtain ⟨f1, f2, f3, f4, f5, f6, f7, f8, f9, f10, f11⟩ := mat_facts (game_mat he)
  have hb := hs.lt
  have hh := hide h
  obtain ⟨aa, ac, rfl, hal, ham⟩ := h.1.1.shape
  obtain ⟨ta, tc, rfl, htl, htm⟩ := h.2.2.shape
  clear h
  have hq : lineQ g s = (if (sampleS g.of.toNat g.main.toNat s).1.2 ≠ 0 then ((([], []), (sampleS g.of.toNat g.main.toNat s).1.2), (sampleS g.of.toNat g.main.toNat s).2)
    else if g.bonus = 0 then (((sortI (sampleS g.of.toNat g.main.toNat s).1.1, []), 0), (sampleS g.of.toNat g.main.toNat s).2)
    else if (sampleS g.bonusOf.toNat g.bonus.toNat (sampleS g.of.toNat g.main.toNat s).2).1.2 ≠ 0 then ((([], []), (sampleS g.bonusOf.toNat g.bonus.toNat (sampleS g.of.toNat g.main.toNat s).2).1.2), (sampleS g.bonusOf.toNat g.bonus.toNat (sampleS g.of.toNat g.main.toNat s).2).2)
    else (((sortI (sampleS g.of.toNat g.main.toNat s).1.1, sortI (sampleS g.bonusOf.toNat g.bonus.toNat (sampleS g.of.toNat g.main.toNat s).2).1.1), 0), (sampleS g.bonusOf.toNat g.bonus.toNat (sampleS g.of.toNat g.main.toNat s).2).2)) := by unfold lineQ; rw [if_neg hk]
  rw [hq]
  have e1 := f8 hk
  have cc := hide (fun X (hX : StA 58 X b s) => ssorted_int b g.of g.main s X hX (by omega) (by omega) (by omega))
  obtain ⟨R, hR⟩ : ∃ R, R = sampleS g.of.toNat g.main.toNat s := ⟨_, rfl⟩
  rw [← hR] at cc ⊢
  obtain ⟨⟨l, c⟩, st⟩ := R
  have c2 := hide (fun X (hX : StA 58 X b st) => ssorted_int b g.bonusOf g.bonus st X hX (by omega) (by omega) (by omega))
  unfold sortS at cc c2
  simp only [] at cc c2 ⊢
  have hs := hide hs
  have hkb : (g.kind == 2) = false := by simpa using hk
  replace hk := hide hk
  replace he := hide he
  clear hq hR f1 f2 f3 f4 f5 f6 f7 f8 f9 f10 f11 e1
  by_cases hc0 : c = 0
  · subst hc0
    rw [if_neg (by simp)]
    by_cases hb0 : g.bonus = 0
    · rw [if_pos hb0]
      have hbb : (g.bonus == 0) = true := by simpa using hb0
      replace hb0 := hide hb0
      clear c2
      unfold gameVal
      go_enter Tryz.func14, Tryz.ntmps14
      go_upto_region 1 with (fail)
      obtain ⟨W, hW⟩ : ∃ W, W = ((w.alloc (Obj.cells #[.string g.name, .int .i64 g.kind, .int .i64 g.price, .int .i64 g.main, .int .i64 g.of, .int .i64 g.bonus, .int .i64 g.bonusOf, .int .i64 g.extra, .int .i64 g.draws, .int .i64 g.system, .int .i64 g.days, .int .i64 g.at_, .int .i64 g.close, .int .i64 g.cancel, .int .i64 g.expiry, .int .i64 g.pool, .int .i64 g.reserve, .int .i64 g.round, .int .i64 g.cap, .int .i64 g.rolls, (.slice aa ms.length ac), (.slice ta g.tiers.length tc)] 25)).alloc (Obj.cells #[(.slice none 0 0), (.slice none 0 0)] 42)) := ⟨_, rfl⟩
      have bW : Below w.heap.size w W := by rw [hW]; exact Bel.al (Bel.al (Below.refl _ _) _) _
      have r0 : GameAt W (w.heap.size) g ((.slice aa ms.length ac)) ((.slice ta g.tiers.length tc)) := by rw [hW]; exact Row.alloc (Row.new _ _ _) _
      have r1 : LineAt W (w.heap.size + 1) ((.slice none 0 0)) ((.slice none 0 0)) := by rw [hW]; exact Row.at2 _ _ _ _
      have sW : w.heap.size + 1 < W.heap.size := by rw [hW]; simp
      rw [← hW]
      clear hW
      go_wp2_with (first | (refine wpList_load_row rfl 25 _ rfl _ rfl _ _ _ _ r0 Tryz.underlying25 rfl (by kernel_rfl) ?_) | fail)
      refine (hc.out _ (hh.out.below bW)).mono ?_
      rintro e w1 ⟨rfl, hb1⟩
      have B1 := Bel.to bW hb1
      have r0 := r0.keep hb1
      have r1 := r1.keep hb1
      have hS := hs.out.keep B1
      have hG := Gb.ofBelow B1 (some b)
      clear hb1 bW sW hh hc hs
      have d1 := r0.kind
      have d3 := r0.main
      have d4 := r0.of
      have d5 := r0.bonus
      have d6 := r0.bonusOf
      go_wp2_with fail
      refine (cc.out _ hS).mono ?_
      rintro e w2 ⟨v, rfl, hown, hS2, hG2⟩
      simp only [] at hown hS2
      have hfr := hide (hown.fr.mono hG.size)
      have hrd := hown.rd
      have z1 : w.heap.size + 1 < w1.heap.size := by have := r1.lt; omega
      have r1 : LineAt w2 (w.heap.size + 1) (.slice none 0 0) (.slice none 0 0) := Row.grown r1 hG2 (by intro e; injection e with e; omega)
      have r0 : GameAt w2 w.heap.size g (.slice aa ms.length ac) (.slice ta g.tiers.length tc) := Row.grown r0 hG2 (by intro e; injection e with e; omega)
      replace hS := hS2
      replace hG := Gb.to hG hG2
      have z2 : w1.heap.size ≤ w2.heap.size := hG2.size
      clear hS2 hG2 d1 d3 d4 d5 d6
      obtain ⟨a1, n1, k1, rfl⟩ := Rd.shape hrd
      have d5 := r0.bonus
      clear hown
      obtain ⟨hat, hlr, hlg⟩ := line_stored r1 hrd Rd.nil
      have x0 := LineAt.main r1
      have x1 := LineAt.bonus r1
      have x2 := Row.frozen r1 0
      have x3 := Row.frozen r1 1
      have y0 := hide hat.main
      have y1 := hide hat.bonus
      have hS9 := hide (hS.line (L := w.heap.size + 1) (by omega) (.slice a1 n1 k1) (.slice none 0 0))
      have hG9 := hide (Gb.toOwn hG hlg (fun k hk => by injection hk with hk; omega))
      replace hlr := hide hlr
      clear hat hlg hS hG
      go_wp2
      exact bodyPost_ret (v := .tuple #[.agg #[.slice a1 n1 k1, .slice none 0 0], .int .i64 0]) (by simp [results, Tryz.results14, go_sem, y0.out, y1.out]) rfl ⟨_, _, rfl, hlr.out, hfr.out, Fr.nil, hS9.out, hG9.out⟩

    · rw [if_neg hb0]
      have hbb : (g.bonus == 0) = false := by simpa using hb0
      replace hb0 := hide hb0
      obtain ⟨T, hT⟩ : ∃ T, T = sampleS g.bonusOf.toNat g.bonus.toNat st := ⟨_, rfl⟩
      rw [← hT] at c2 ⊢
      clear hT
      obtain ⟨⟨l2, cB⟩, st2⟩ := T
      simp only [] at c2 ⊢
      by_cases hcB : cB = 0
      · subst hcB
        rw [if_neg (by simp)]
        unfold gameVal
        go_enter Tryz.func14, Tryz.ntmps14
        go_upto_region 1 with (fail)
        obtain ⟨W, hW⟩ : ∃ W, W = ((w.alloc (Obj.cells #[.string g.name, .int .i64 g.kind, .int .i64 g.price, .int .i64 g.main, .int .i64 g.of, .int .i64 g.bonus, .int .i64 g.bonusOf, .int .i64 g.extra, .int .i64 g.draws, .int .i64 g.system, .int .i64 g.days, .int .i64 g.at_, .int .i64 g.close, .int .i64 g.cancel, .int .i64 g.expiry, .int .i64 g.pool, .int .i64 g.reserve, .int .i64 g.round, .int .i64 g.cap, .int .i64 g.rolls, (.slice aa ms.length ac), (.slice ta g.tiers.length tc)] 25)).alloc (Obj.cells #[(.slice none 0 0), (.slice none 0 0)] 42)) := ⟨_, rfl⟩
        have bW : Below w.heap.size w W := by rw [hW]; exact Bel.al (Bel.al (Below.refl _ _) _) _
        have r0 : GameAt W (w.heap.size) g ((.slice aa ms.length ac)) ((.slice ta g.tiers.length tc)) := by rw [hW]; exact Row.alloc (Row.new _ _ _) _
        have r1 : LineAt W (w.heap.size + 1) ((.slice none 0 0)) ((.slice none 0 0)) := by rw [hW]; exact Row.at2 _ _ _ _
        have sW : w.heap.size + 1 < W.heap.size := by rw [hW]; simp
        rw [← hW]
        clear hW
        go_wp2_with (first | (refine wpList_load_row rfl 25 _ rfl _ rfl _ _ _ _ r0 Tryz.underlying25 rfl (by kernel_rfl) ?_) | fail)
        refine (hc.out _ (hh.out.below bW)).mono ?_
        rintro e w1 ⟨rfl, hb1⟩
        have B1 := Bel.to bW hb1
        have r0 := r0.keep hb1
        have r1 := r1.keep hb1
        have hS := hs.out.keep B1
        have hG := Gb.ofBelow B1 (some b)
        clear hb1 bW sW hh hc hs
        have d1 := r0.kind
        have d3 := r0.main
        have d4 := r0.of
        have d5 := r0.bonus
        have d6 := r0.bonusOf
        go_wp2_with fail
        refine (cc.out _ hS).mono ?_
        rintro e w2 ⟨v, rfl, hown, hS2, hG2⟩
        simp only [] at hown hS2
        have hfr := hide (hown.fr.mono hG.size)
        have hrd := hown.rd
        have z1 : w.heap.size + 1 < w1.heap.size := by have := r1.lt; omega
        have r1 : LineAt w2 (w.heap.size + 1) (.slice none 0 0) (.slice none 0 0) := Row.grown r1 hG2 (by intro e; injection e with e; omega)
        have r0 : GameAt w2 w.heap.size g (.slice aa ms.length ac) (.slice ta g.tiers.length tc) := Row.grown r0 hG2 (by intro e; injection e with e; omega)
        replace hS := hS2
        replace hG := Gb.to hG hG2
        have z2 : w1.heap.size ≤ w2.heap.size := hG2.size
        clear hS2 hG2 d1 d3 d4 d5 d6
        obtain ⟨a1, n1, k1, rfl⟩ := Rd.shape hrd
        have d5 := r0.bonus
        have d6 := r0.bonusOf
        go_wp2_with fail
        refine (c2.out _ hS).mono ?_
        rintro e w3 ⟨v2, rfl, hown2, hS3, hG3⟩
        simp only [] at hown2 hS3
        have hfr2 := hide (hown2.fr.mono hG.size)
        have hrd2 := hown2.rd
        have hlt1 : ∀ k, (Value.slice a1 n1 k1).ownBlock = some k → w1.heap.size ≤ k := fun k hk => (hown.lt k hk).1
        have hrd := (hown.grown hG3 (by cases hv : (Value.slice a1 n1 k1).ownBlock with | none => exact .inl rfl | some k => exact .inr (fun e => by injection e with e; have := hlt1 k hv; omega))).rd
        have r1 : LineAt w3 (w.heap.size + 1) (.slice none 0 0) (.slice none 0 0) := Row.grown r1 hG3 (by intro e; injection e with e; omega)
        replace hS := hS3
        replace hG := Gb.to hG hG3
        clear hown hown2 hS3 hG3 d5 d6 r0 hlt1
        obtain ⟨a2, n2, k2, rfl⟩ := Rd.shape hrd2
        obtain ⟨hat, hlr, hlg⟩ := line_stored r1 hrd hrd2
        have x0 := LineAt.main r1
        have x1 := LineAt.bonus r1
        have x2 := Row.frozen r1 0
        have x3 := Row.frozen r1 1
        have y0 := hide hat.main
        have y1 := hide hat.bonus
        have hS9 := hide (hS.line (L := w.heap.size + 1) (by omega) (.slice a1 n1 k1) (.slice a2 n2 k2))
        have hG9 := hide (Gb.toOwn hG hlg (fun k hk => by injection hk with hk; omega))
        replace hlr := hide hlr
        clear hat hlg hS hG
        go_wp2
        exact bodyPost_ret (v := .tuple #[.agg #[.slice a1 n1 k1, .slice a2 n2 k2], .int .i64 0]) (by simp [results, Tryz.results14, go_sem, y0.out, y1.out]) rfl ⟨_, _, rfl, hlr.out, hfr.out, hfr2.out, hS9.out, hG9.out⟩

      · rw [if_pos hcB]
        have hcn : (cB != 0) = true := by simpa using hcB
        replace hcB := hide hcB
        unfold gameVal
        go_enter Tryz.func14, Tryz.ntmps14
        go_upto_region 1 with (fail)
        obtain ⟨W, hW⟩ : ∃ W, W = ((w.alloc (Obj.cells #[.string g.name, .int .i64 g.kind, .int .i64 g.price, .int .i64 g.main, .int .i64 g.of, .int .i64 g.bonus, .int .i64 g.bonusOf, .int .i64 g.extra, .int .i64 g.draws, .int .i64 g.system, .int .i64 g.days, .int .i64 g.at_, .int .i64 g.close, .int .i64 g.cancel, .int .i64 g.expiry, .int .i64 g.pool, .int .i64 g.reserve, .int .i64 g.round, .int .i64 g.cap, .int .i64 g.rolls, (.slice aa ms.length ac), (.slice ta g.tiers.length tc)] 25)).alloc (Obj.cells #[(.slice none 0 0), (.slice none 0 0)] 42)) := ⟨_, rfl⟩
        have bW : Below w.heap.size w W := by rw [hW]; exact Bel.al (Bel.al (Below.refl _ _) _) _
        have r0 : GameAt W (w.heap.size) g ((.slice aa ms.length ac)) ((.slice ta g.tiers.length tc)) := by rw [hW]; exact Row.alloc (Row.new _ _ _) _
        have r1 : LineAt W (w.heap.size + 1) ((.slice none 0 0)) ((.slice none 0 0)) := by rw [hW]; exact Row.at2 _ _ _ _
        have sW : w.heap.size + 1 < W.heap.size := by rw [hW]; simp
        rw [← hW]
        clear hW
        go_wp2_with (first | (refine wpList_load_row rfl 25 _ rfl _ rfl _ _ _ _ r0 Tryz.underlying25 rfl (by kernel_rfl) ?_) | fail)
        refine (hc.out _ (hh.out.below bW)).mono ?_
        rintro e w1 ⟨rfl, hb1⟩
        have B1 := Bel.to bW hb1
        have r0 := r0.keep hb1
        have r1 := r1.keep hb1
        have hS := hs.out.keep B1
        have hG := Gb.ofBelow B1 (some b)
        clear hb1 bW sW hh hc hs
        have d1 := r0.kind
        have d3 := r0.main
        have d4 := r0.of
        have d5 := r0.bonus
        have d6 := r0.bonusOf
        go_wp2_with fail
        refine (cc.out _ hS).mono ?_
        rintro e w2 ⟨v, rfl, hown, hS2, hG2⟩
        simp only [] at hown hS2
        have hfr := hide (hown.fr.mono hG.size)
        have hrd := hown.rd
        have z1 : w.heap.size + 1 < w1.heap.size := by have := r1.lt; omega
        have r1 : LineAt w2 (w.heap.size + 1) (.slice none 0 0) (.slice none 0 0) := Row.grown r1 hG2 (by intro e; injection e with e; omega)
        have r0 : GameAt w2 w.heap.size g (.slice aa ms.length ac) (.slice ta g.tiers.length tc) := Row.grown r0 hG2 (by intro e; injection e with e; omega)
        replace hS := hS2
        replace hG := Gb.to hG hG2
        have z2 : w1.heap.size ≤ w2.heap.size := hG2.size
        clear hS2 hG2 d1 d3 d4 d5 d6
        obtain ⟨a1, n1, k1, rfl⟩ := Rd.shape hrd
        have d5 := r0.bonus
        have d6 := r0.bonusOf
        go_wp2_with fail
        refine (c2.out _ hS).mono ?_
        rintro e w3 ⟨v2, rfl, hown2, hS3, hG3⟩
        simp only [] at hown2 hS3
        have hfr2 := hide (hown2.fr.mono hG.size)
        have hrd2 := hown2.rd
        have hlt1 : ∀ k, (Value.slice a1 n1 k1).ownBlock = some k → w1.heap.size ≤ k := fun k hk => (hown.lt k hk).1
        have hrd := (hown.grown hG3 (by cases hv : (Value.slice a1 n1 k1).ownBlock with | none => exact .inl rfl | some k => exact .inr (fun e => by injection e with e; have := hlt1 k hv; omega))).rd
        have r1 : LineAt w3 (w.heap.size + 1) (.slice none 0 0) (.slice none 0 0) := Row.grown r1 hG3 (by intro e; injection e with e; omega)
        replace hS := hS3
        replace hG := Gb.to hG hG3
        clear hown hown2 hS3 hG3 d5 d6 r0 hlt1
        clear hfr hfr2
        obtain ⟨a2, n2, k2, rfl⟩ := Rd.shape hrd2
        obtain ⟨hat, hlr, hlg⟩ := line_stored r1 Rd.nil Rd.nil
        have x0 := LineAt.main r1
        have x1 := LineAt.bonus r1
        have x2 := Row.frozen r1 0
        have x3 := Row.frozen r1 1
        have y0 := hide hat.main
        have y1 := hide hat.bonus
        have hS9 := hide (hS.line (L := w.heap.size + 1) (by omega) (.slice none 0 0) (.slice none 0 0))
        have hG9 := hide (Gb.toOwn hG hlg (fun k hk => by injection hk with hk; omega))
        replace hlr := hide hlr
        clear hat hlg hS hG
        go_wp2
        exact bodyPost_ret (v := .tuple #[.agg #[.slice none 0 0, .slice none 0 0], .int .i64 cB]) (by simp [results, Tryz.results14, go_sem, y0.out, y1.out]) rfl ⟨_, _, rfl, hlr.out, Fr.nil, Fr.nil, hS9.out, hG9.out⟩

  · rw [if_pos hc0]
    have hcn : (c != 0) = true := by simpa using hc0
    replace hc0 := hide hc0
    clear c2
    unfold gameVal
    go_enter Tryz.func14, Tryz.ntmps14
    go_upto_region 1 with (fail)
    obtain ⟨W, hW⟩ : ∃ W, W = ((w.alloc (Obj.cells #[.string g.name, .int .i64 g.kind, .int .i64 g.price, .int .i64 g.main, .int .i64 g.of, .int .i64 g.bonus, .int .i64 g.bonusOf, .int .i64 g.extra, .int .i64 g.draws, .int .i64 g.system, .int .i64 g.days, .int .i64 g.at_, .int .i64 g.close, .int .i64 g.cancel, .int .i64 g.expiry, .int .i64 g.pool, .int .i64 g.reserve, .int .i64 g.round, .int .i64 g.cap, .int .i64 g.rolls, (.slice aa ms.length ac), (.slice ta g.tiers.length tc)] 25)).alloc (Obj.cells #[(.slice none 0 0), (.slice none 0 0)] 42)) := ⟨_, rfl⟩
    have bW : Below w.heap.size w W := by rw [hW]; exact Bel.al (Bel.al (Below.refl _ _) _) _
    have r0 : GameAt W (w.heap.size) g ((.slice aa ms.length ac)) ((.slice ta g.tiers.length tc)) := by rw [hW]; exact Row.alloc (Row.new _ _ _) _
    have r1 : LineAt W (w.heap.size + 1) ((.slice none 0 0)) ((.slice none 0 0)) := by rw [hW]; exact Row.at2 _ _ _ _
    have sW : w.heap.size + 1 < W.heap.size := by rw [hW]; simp
    rw [← hW]
    clear hW
    go_wp2_with (first | (refine wpList_load_row rfl 25 _ rfl _ rfl _ _ _ _ r0 Tryz.underlying25 rfl (by kernel_rfl) ?_) | fail)
    refine (hc.out _ (hh.out.below bW)).mono ?_
    rintro e w1 ⟨rfl, hb1⟩
    have B1 := Bel.to bW hb1
    have r0 := r0.keep hb1
    have r1 := r1.keep hb1
    have hS := hs.out.keep B1
    have hG := Gb.ofBelow B1 (some b)
    clear hb1 bW sW hh hc hs
    have d1 := r0.kind
    have d3 := r0.main
    have d4 := r0.of
    have d5 := r0.bonus
    have d6 := r0.bonusOf
    go_wp2_with fail
    refine (cc.out _ hS).mono ?_
    rintro e w2 ⟨v, rfl, hown, hS2, hG2⟩
    simp only [] at hown hS2
    have hfr := hide (hown.fr.mono hG.size)
    have hrd := hown.rd
    have z1 : w.heap.size + 1 < w1.heap.size := by have := r1.lt; omega
    have r1 : LineAt w2 (w.heap.size + 1) (.slice none 0 0) (.slice none 0 0) := Row.grown r1 hG2 (by intro e; injection e with e; omega)
    have r0 : GameAt w2 w.heap.size g (.slice aa ms.length ac) (.slice ta g.tiers.length tc) := Row.grown r0 hG2 (by intro e; injection e with e; omega)
    replace hS := hS2
    replace hG := Gb.to hG hG2
    have z2 : w1.heap.size ≤ w2.heap.size := hG2.size
    clear hown hfr hS2 hG2 d1 d3 d4 d5 d6
    obtain ⟨a1, n1, k1, rfl⟩ := Rd.shape hrd
    obtain ⟨hat, hlr, hlg⟩ := line_stored r1 Rd.nil Rd.nil
    have x0 := LineAt.main r1
    have x1 := LineAt.bonus r1
    have x2 := Row.frozen r1 0
    have x3 := Row.frozen r1 1
    have y0 := hide hat.main
    have y1 := hide hat.bonus
    have hS9 := hide (hS.line (L := w.heap.size + 1) (by omega) (.slice none 0 0) (.slice none 0 0))
    have hG9 := hide (Gb.toOwn hG hlg (fun k hk => by injection hk with hk; omega))
    replace hlr := hide hlr
    clear hat hlg hS hG
    go_wp2
    exact bodyPost_ret (v := .tuple #[.agg #[.slice none 0 0, .slice none 0 0], .int .i64 c]) (by simp [results, Tryz.results14, go_sem, y0.out, y1.out]) rfl ⟨_, _, rfl, hlr.out, Fr.nil, Fr.nil, hS9.out, hG9.out⟩


theorem qline_ok (g : GameD) (av tv : Value) (ms : List AddonM) (b : Nat) (s : St) (w : World) (h : GameR w av tv ms g) (hs : StA 58 w b s) (he : gameE g = 0) :
    Calls Tryz.prog 14 #[gameVal g av tv, .pointer (some ⟨b, 0, none⟩)] w (LineS 58 b (lineQ g s) w) := by
  by_cases hk : g.kind = 2
  · exact qline_digits g av tv ms b s w h hs he hk
  · exact qline_choose g av tv ms b s w h hs he hk
end Go.Proofs.YtokhhccokjfgjaaGreat
end

section
/- quickpick.Lines: so many quick picks of a game. Condition: a seed below 2^64. -/
open Go.RowKit
set_option linter.unusedVariables false
set_option linter.unusedSimpArgs false
namespace Go.Proofs.YtokhhccokjfgjaaGreat

theorem infoLine : (Tryz.prog.info? 42).map (fun i => (i.zero, i.size, i.bytes)) = some (some (.agg #[.slice none 0 0, .slice none 0 0]), 2, 48) := by kernel_rfl
theorem lineZ : (Value.agg #[.slice none 0 0, .slice none 0 0]).cells.size = 2 := rfl
theorem slice_one (a : Option Addr) (n c : Nat) : (Value.slice a n c).oneCell' = true := rfl
theorem ap_fr {u v : Value} {l : List Int} {B : Nat} (h : Fr B u l) (hv : ∀ k, v.ownBlock = some k → k < B) : Ap u v l := by
  rcases h with h | ⟨k, h1, h2⟩
  · exact .inl h
  · exact .inr (fun e => by rw [h1] at e; have := hv k e.symm; omega)

/-- Lines and a code. -/
def LinesC (ls : List LineD) (c : Int) (w : World) (e : Ending) (w' : World) : Prop := ∃ v, e = .returned (.tuple #[v, .int .i64 c]) ∧ LinesR w' v ls ∧ Below w.heap.size w w'

set_option maxHeartbeats 2000000 in
set_option maxRecDepth 100000 in
theorem qlines_bad (g : GameD) (av tv : Value) (ms : List AddonM) (x : Nat) (n : Int) (w : World) (h : GameR w av tv ms g) (he : gameE g ≠ 0) :
    Calls Tryz.prog 7 #[gameVal g av tv, .int .u64 (x : Int), .int .i64 n] w (LinesC [] (gameE g) w) := by
  have hc := hide (fun X (hX : GameR X av tv ms g) => mcount_bad g av tv ms X hX he)
  have hh := hide h
  obtain ⟨aa, ac, rfl, hal, ham⟩ := h.1.1.shape
  obtain ⟨ta, tc, rfl, htl, htm⟩ := h.2.2.shape
  clear h
  obtain ⟨c, hcc⟩ : ∃ c, c = gameE g := ⟨_, rfl⟩
  rw [← hcc] at hc he ⊢
  clear hcc
  have hcb : (c != 0) = true := by simpa using he
  replace he := hide he
  unfold gameVal
  go_enter Tryz.func7, Tryz.ntmps7
  go_upto_region 1 with (fail)
  obtain ⟨W, hW⟩ : ∃ W, W = (w.alloc (Obj.cells #[.string g.name, .int .i64 g.kind, .int .i64 g.price, .int .i64 g.main, .int .i64 g.of, .int .i64 g.bonus, .int .i64 g.bonusOf, .int .i64 g.extra, .int .i64 g.draws, .int .i64 g.system, .int .i64 g.days, .int .i64 g.at_, .int .i64 g.close, .int .i64 g.cancel, .int .i64 g.expiry, .int .i64 g.pool, .int .i64 g.reserve, .int .i64 g.round, .int .i64 g.cap, .int .i64 g.rolls, (.slice aa ms.length ac), (.slice ta g.tiers.length tc)] 25)) := ⟨_, rfl⟩
  have bW : Below w.heap.size w W := by rw [hW]; exact Bel.al (Below.refl _ _) _
  have r0 : GameAt W (w.heap.size) g ((.slice aa ms.length ac)) ((.slice ta g.tiers.length tc)) := by rw [hW]; exact Row.new _ _ _
  have sW : w.heap.size < W.heap.size := by rw [hW]; simp
  rw [← hW]
  clear hW
  go_wp2_with (first | (refine wpList_load_row rfl 25 _ rfl _ rfl _ _ _ _ r0 Tryz.underlying25 rfl (by kernel_rfl) ?_) | fail)
  refine (hc.out _ (hh.out.below bW)).mono ?_
  rintro e w1 ⟨rfl, hb1⟩
  have B1 := Bel.to bW hb1
  have r0 := r0.keep hb1
  go_wp2
  go_ret2
  exact ⟨.slice none 0 0, rfl, LinesR.nil, B1⟩

set_option maxHeartbeats 2000000 in
set_option maxRecDepth 100000 in
theorem qlines_range (g : GameD) (av tv : Value) (ms : List AddonM) (x : Nat) (n : Int) (w : World) (h : GameR w av tv ms g) (he : gameE g = 0) (hn : n < 0 ∨ 1024 < n) :
    Calls Tryz.prog 7 #[gameVal g av tv, .int .u64 (x : Int), .int .i64 n] w (LinesC [] 2 w) := by
  have hc := hide (fun X (hX : GameR X av tv ms g) => mcount_ok g av tv ms X hX he)
  have hh := hide h
  obtain ⟨aa, ac, rfl, hal, ham⟩ := h.1.1.shape
  obtain ⟨ta, tc, rfl, htl, htm⟩ := h.2.2.shape
  clear h
  replace he := hide he
  rcases hn with hn | hn
  all_goals
    unfold gameVal
    go_enter Tryz.func7, Tryz.ntmps7
    go_upto_region 1 with (fail)
    obtain ⟨W, hW⟩ : ∃ W, W = (w.alloc (Obj.cells #[.string g.name, .int .i64 g.kind, .int .i64 g.price, .int .i64 g.main, .int .i64 g.of, .int .i64 g.bonus, .int .i64 g.bonusOf, .int .i64 g.extra, .int .i64 g.draws, .int .i64 g.system, .int .i64 g.days, .int .i64 g.at_, .int .i64 g.close, .int .i64 g.cancel, .int .i64 g.expiry, .int .i64 g.pool, .int .i64 g.reserve, .int .i64 g.round, .int .i64 g.cap, .int .i64 g.rolls, (.slice aa ms.length ac), (.slice ta g.tiers.length tc)] 25)) := ⟨_, rfl⟩
    have bW : Below w.heap.size w W := by rw [hW]; exact Bel.al (Below.refl _ _) _
    have r0 : GameAt W (w.heap.size) g ((.slice aa ms.length ac)) ((.slice ta g.tiers.length tc)) := by rw [hW]; exact Row.new _ _ _
    have sW : w.heap.size < W.heap.size := by rw [hW]; simp
    rw [← hW]
    clear hW
    go_wp2_with (first | (refine wpList_load_row rfl 25 _ rfl _ rfl _ _ _ _ r0 Tryz.underlying25 rfl (by kernel_rfl) ?_) | fail)
    refine (hc.out _ (hh.out.below bW)).mono ?_
    rintro e w1 ⟨rfl, hb1⟩
    have B1 := Bel.to bW hb1
    have r0 := r0.keep hb1

    go_wp2
    go_ret2
    exact ⟨.slice none 0 0, rfl, LinesR.nil, B1⟩

set_option maxHeartbeats 4000000 in
set_option maxRecDepth 100000 in
theorem qlines_ok (g : GameD) (av tv : Value) (ms : List AddonM) (x n : Nat) (w : World) (h : GameR w av tv ms g) (he : gameE g = 0) (hn : n ≤ 1024) :
    Calls Tryz.prog 7 #[gameVal g av tv, .int .u64 (x : Int), .int .i64 (n : Int)] w (LinesC (linesQ g n [] (x, 0)).1.1 (linesQ g n [] (x, 0)).1.2 w) := by
  have hc := hide (fun X (hX : GameR X av tv ms g) => mcount_ok g av tv ms X hX he)
  have cl := hide (fun (b : Nat) (st : St) X (hX : GameR X av tv ms g) (hs : StA 58 X b st) => qline_ok g av tv ms b st X hX hs he)
  obtain ⟨R, hR⟩ : ∃ R, R = linesQ g n [] (x, 0) := ⟨_, rfl⟩
  rw [← hR]
  replace hR := hide hR.symm
  have hh := hide h
  obtain ⟨aa, ac, rfl, hal, ham⟩ := h.1.1.shape
  obtain ⟨ta, tc, rfl, htl, htm⟩ := h.2.2.shape
  clear h
  replace he := hide he
  have a1 : (0 : Int) ≤ (n : Int) := by omega
  have a2 : (n : Int) ≤ 1024 := by omega
  have hn2 := hide hn
  have cn := hide (fun X => snew_any x X)
  obtain ⟨i0, hi, hz0, hz1, hz2⟩ := info_parts infoLine
  clear hn
  unfold gameVal
  go_enter Tryz.func7, Tryz.ntmps7
  go_upto_region 1 with (fail)
  obtain ⟨W, hW⟩ : ∃ W, W = (w.alloc (Obj.cells #[.string g.name, .int .i64 g.kind, .int .i64 g.price, .int .i64 g.main, .int .i64 g.of, .int .i64 g.bonus, .int .i64 g.bonusOf, .int .i64 g.extra, .int .i64 g.draws, .int .i64 g.system, .int .i64 g.days, .int .i64 g.at_, .int .i64 g.close, .int .i64 g.cancel, .int .i64 g.expiry, .int .i64 g.pool, .int .i64 g.reserve, .int .i64 g.round, .int .i64 g.cap, .int .i64 g.rolls, (.slice aa ms.length ac), (.slice ta g.tiers.length tc)] 25)) := ⟨_, rfl⟩
  have bW : Below w.heap.size w W := by rw [hW]; exact Bel.al (Below.refl _ _) _
  have r0 : GameAt W (w.heap.size) g ((.slice aa ms.length ac)) ((.slice ta g.tiers.length tc)) := by rw [hW]; exact Row.new _ _ _
  have sW : w.heap.size < W.heap.size := by rw [hW]; simp
  rw [← hW]
  clear hW
  go_wp2_with (first | (refine wpList_load_row rfl 25 _ rfl _ rfl _ _ _ _ r0 Tryz.underlying25 rfl (by kernel_rfl) ?_) | fail)
  refine (hc.out _ (hh.out.below bW)).mono ?_
  rintro e w1 ⟨rfl, hb1⟩
  have B1 := Bel.to bW hb1
  have r0 := r0.keep hb1
  clear hb1 bW sW hc
  go_wp2_with fail
  refine (cn.out _).mono ?_
  rintro e w2 ⟨rfl, hS, hb2, hz⟩
  have B2 := Bel.to B1 hb2
  have hsw1 : w.heap.size < w1.heap.size := r0.lt
  have r0 := r0.keep hb2
  obtain ⟨sb, hsb⟩ : ∃ sb, sb = w1.heap.size := ⟨_, rfl⟩
  rw [← hsb] at hS hz hsw1 ⊢
  have hsw : w.heap.size ≤ sb := Nat.le_of_lt hsw1
  have hbase : sb < w2.heap.size := by omega
  replace hsb := hide hsb
  replace hz := hide hz
  clear hb2 B1
  go_wp2_with (with_reducible refine wpList_make_own _ rfl _ _ 29 rfl w2.heap.size 42 i0 _ 2 Tryz.underlying29 hi hz0 hz1 .i64 .i64 _ n rfl rfl (by omega) (by rw [hz2]; omega) (by unfold maxLen; omega) (Nat.le_refl _) ?_; intro W3 hown0 hg0)
  have hownI : OwnLn W3 w2.heap.size (.slice (some ⟨w2.heap.size, 0, none⟩) 0 n) [] := ⟨[], hown0, rfl, fun i p x h => by simp at h⟩
  have hb3 : Below w2.heap.size w2 W3 := (Below.refl _ _).grown hg0 (Nat.le_refl _) (fun k hk => by cases hk)
  have B3 := Bel.to B2 hb3
  have hSI := hS.keep hb3
  have r0I := r0.keep hb3
  have hleI : w2.heap.size ≤ W3.heap.size := hb3.size
  clear hown0 hg0 hb3 B2 hS r0
  go_wp2
  go_loopg [11, 33] n (fun gh v i wr => ∃ (j : Nat) (ls : List LineD) (st : St) (ao : Option Addr) (m cap : Nat), gh = n - j ∧ j ≤ n ∧ i = .int .i64 (j : Int) ∧ v = .slice ao m cap ∧ OwnLn wr w2.heap.size (.slice ao m cap) ls ∧ StA 58 wr sb st ∧ GameAt wr w.heap.size g (.slice aa ms.length ac) (.slice ta g.tiers.length tc) ∧ Below w.heap.size w wr ∧ w2.heap.size ≤ wr.heap.size ∧ Hid (ls.length = j) ∧ Hid (linesQ g (n - j) ls st = R))
  case atStart => exact ⟨0, [], (x, 0), _, _, _, rfl, Nat.zero_le _, rfl, rfl, hownI, hSI, r0I, B3, hleI, rfl, hR⟩
  case round =>
    obtain ⟨j, ls, st, ao, m, cap, hgh, hj, rfl, rfl, hown, hS, r0, hB, hle, hlen, hD⟩ := hrel
    replace hgh := hide hgh
    by_cases hlt : j < n
    · have hlt2 := hide hlt
      have cc := cl.out sb st wr (hh.out.below hB) hS
      have hD2 := hD.out
      rw [show n - j = (n - j - 1) + 1 by omega, linesQ_succ] at hD2
      obtain ⟨L, hL⟩ : ∃ L, L = lineQ g st := ⟨_, rfl⟩
      rw [← hL] at cc hD2
      clear hL hD
      obtain ⟨⟨⟨a, b⟩, c⟩, st'⟩ := L
      simp only [] at cc hD2
      replace cc := hide cc
      have hol := hown.lt
      by_cases hc : c = 0
      · subst hc
        rw [if_neg (by simp)] at hD2
        replace hD2 := hide hD2
        replace hol := hide hol
        go_wp2_with (first | (refine wpList_load_row rfl 25 _ rfl _ rfl _ _ _ _ r0 Tryz.underlying25 rfl (by kernel_rfl) ?_) | fail)
        refine cc.out.mono ?_
        rintro e w4 ⟨u, v, rfl, hlr, fu, fv, hS4, hG4⟩
        simp only [] at hlr fu fv hS4
        have hown4 := hown.grown hG4 (fun k hk => by injection hk with hk; omega)
        have B4 := Gb.bel hB hG4 hsw
        have r4 : GameAt w4 w.heap.size g (.slice aa ms.length ac) (.slice ta g.tiers.length tc) := Row.grown r0 hG4 (by intro e; injection e with e; omega)
        have hle4 : w2.heap.size ≤ w4.heap.size := Nat.le_trans hle hG4.size
        have p1 := hide (ap_fr (v := .slice ao m cap) fu (fun k hk => (hol.out k hk).2))
        have p2 := hide (ap_fr (v := .slice ao m cap) fv (fun k hk => (hol.out k hk).2))
        have f1 := hide (fu.mono hle)
        have f2 := hide (fv.mono hle)
        obtain ⟨u1, u2, u3, rfl⟩ := Rd.shape hlr.1
        obtain ⟨v1, v2, v3, rfl⟩ := Rd.shape hlr.2
        clear hown hS r0 hB fu fv hle hG4
        unfold lineVal
        go_upto_region 13 with (fail)
        obtain ⟨W5, hW5⟩ : ∃ W5, W5 = w4.alloc (Obj.cells #[.slice u1 u2 u3, .slice v1 v2 v3] 42) := ⟨_, rfl⟩
        have b5 : Below w4.heap.size w4 W5 := by rw [hW5]; exact Bel.al (Below.refl _ _) _
        have rL : LineAt W5 w4.heap.size (.slice u1 u2 u3) (.slice v1 v2 v3) := by rw [hW5]; exact Row.new _ _ _
        rw [← hW5]
        clear hW5
        have x0 := rL.main
        have x1 := rL.bonus
        have b6 : ∀ o, Below w4.heap.size w4 (W5.alloc o) := fun o => Bel.al b5 o
        have hl5 := hlr.below b5
        have hown5 := hown4.keep b5
        have hS5 := hS4.keep b5
        have r5 := r4.keep b5
        have B5 := Bel.to B4 b5
        have hle5 : w2.heap.size ≤ W5.heap.size := Nat.le_trans hle4 b5.size
        clear hlr hown4 hS4 r4 B4 b5 b6 rL hle4
        go_wp2_with (with_reducible refine wpList_append_ln _ rfl _ _ 29 rfl w2.heap.size (.agg #[.slice none 0 0, .slice none 0 0]) 48 Tryz.underlying29 infoLine lineZ _ ls rfl ?_ W5.heap.size 1 rfl (.slice u1 u2 u3) (.slice v1 v2 v3) a b ?_ ?_ (slice_one _ _ _) (slice_one _ _ _) ?_ f1.out f2.out ?_ ?_ ?_ ?_ ?_ ?_)
        case refine_1 => exact hown5.keep (Bel.al (Below.refl _ _) _)
        case refine_2 => exact (Row.cell? (Row.new W5 42 [.slice u1 u2 u3, .slice v1 v2 v3]) 0).trans rfl
        case refine_3 => exact (Row.cell? (Row.new W5 42 [.slice u1 u2 u3, .slice v1 v2 v3]) 1).trans rfl
        case refine_4 => exact hl5.below (Bel.al (Below.refl _ _) _)
        case refine_5 => exact p1.out
        case refine_6 => exact p2.out
        case refine_7 => have := hlen.out; have := hn2.out; have := hlt2.out; omega
        case refine_8 => have := hlen.out; have := hn2.out; have := hlt2.out; omega
        case refine_9 => simp; omega
        intro v7 w7 hown7 hg7
        have hrow : ∀ k, (Value.slice ao m cap).ownBlock = some k → w2.heap.size ≤ k := fun k hk => (hown5.lt k hk).1
        have hS7 := (hS5.keep (Bel.al (Below.refl _ _) (Obj.cells #[.slice u1 u2 u3, .slice v1 v2 v3] 42))).row hg7 (fun k hk => by have := hrow k hk; omega)
        have r7 : GameAt w7 w.heap.size g (.slice aa ms.length ac) (.slice ta g.tiers.length tc) := Row.grown (r5.keep (Bel.al (Below.refl _ _) (Obj.cells #[.slice u1 u2 u3, .slice v1 v2 v3] 42))) hg7 (fun e => by have := hrow _ e.symm; omega)
        have B7 : Below w.heap.size w w7 := (Bel.al B5 _).grown hg7 (Bel.al B5 _).size (fun k hk => by have := hrow k hk; omega)
        have hle7 : w2.heap.size ≤ w7.heap.size := by have := hg7.size; simp at this; omega
        obtain ⟨a7, c7, rfl⟩ := hown7.shape
        have hlen7 : Hid ((ls ++ [(a, b)]).length = j + 1) := by have := hlen.out; show _ = _; simp; omega
        replace hlen7 := hlen7
        clear hg7 hown5 hS5 r5 B5 hl5 hrow
        go_wp2
        go_roundg (n - (j + 1))
        case measure => have := hgh.out; have := hlt2.out; omega
        case rel => exact ⟨j + 1, ls ++ [(a, b)], st', a7, _, c7, rfl, by have := hlt2.out; omega, by go_num, rfl, hown7, hS7, r7, B7, hle7, hlen7, hD2⟩
      · rw [if_pos hc] at hD2
        have hcn : (c != 0) = true := by simpa using hc
        replace hc := hide hc
        subst hD2
        clear hR hol
        go_wp2_with (first | (refine wpList_load_row rfl 25 _ rfl _ rfl _ _ _ _ r0 Tryz.underlying25 rfl (by kernel_rfl) ?_) | fail)
        refine cc.out.mono ?_
        rintro e w4 ⟨u, v, rfl, hlr, fu, fv, hS4, hG4⟩
        have B4 := Gb.bel hB hG4 hsw
        obtain ⟨u1, u2, u3, rfl⟩ := Rd.shape hlr.1
        obtain ⟨v1, v2, v3, rfl⟩ := Rd.shape hlr.2
        clear hlr fu fv hS4 hG4 hown hS r0
        unfold lineVal
        go_wp2
        go_ret2
        exact ⟨.slice none 0 0, rfl, LinesR.nil, Bel.al B4 _⟩
    · have hjn : j = n := by omega
      subst hjn
      have hD2 := hD.out
      rw [Nat.sub_self, linesQ] at hD2
      subst hD2
      clear hD hR
      have hrd := hown.rd
      go_wp2
      go_ret2
      exact ⟨_, rfl, hrd, hB⟩

theorem qlines_any (g : GameD) (av tv : Value) (ms : List AddonM) (x : Nat) (n : Int) (w : World) (h : GameR w av tv ms g) :
    Calls Tryz.prog 7 #[gameVal g av tv, .int .u64 (x : Int), .int .i64 n] w (LinesC (linesP g x n).1 (linesP g x n).2 w) := by
  unfold linesP
  by_cases he : gameE g = 0
  · rw [if_neg (by simpa using he)]
    by_cases hn : n < 0 ∨ 1024 < n
    · rw [if_pos hn]; exact qlines_range g av tv ms x n w h he hn
    · rw [if_neg hn]
      obtain ⟨n, rfl⟩ := Int.eq_ofNat_of_zero_le (show 0 ≤ n by omega)
      rw [Int.toNat_natCast]
      exact qlines_ok g av tv ms x n w h he (by omega)
  · rw [if_pos he]; exact qlines_bad g av tv ms x n w h he
end Go.Proofs.YtokhhccokjfgjaaGreat
end

section
/- quickpick.Serial, lotteryref14.Serial: serial numbers. No condition. -/
open Go.RowKit
set_option linter.unusedVariables false
set_option linter.unusedSimpArgs false
namespace Go.Proofs.YtokhhccokjfgjaaGreat

/-- The string with these bytes. -/
def strF (l : List Int) : ByteArray := l.foldl (fun r n => r.push (UInt8.ofNat n.toNat)) ByteArray.empty
theorem foldl_data (l : List Int) (a : ByteArray) : (l.foldl (fun (r : ByteArray) (n : Int) => r.push (UInt8.ofNat n.toNat)) a).data.toList = a.data.toList ++ l.map fun n => UInt8.ofNat n.toNat := by
  induction l generalizing a with
  | nil => simp
  | cons x l ih => rw [List.foldl_cons, ih]; simp [ByteArray.push]
theorem strF_data (l : List Int) : (strF l).data.toList = l.map fun n => UInt8.ofNat n.toNat := by
  unfold strF
  rw [foldl_data]; rfl
theorem strF_size (l : List Int) : (strF l).size = l.length := by
  show (strF l).data.size = l.length
  rw [← Array.length_toList, strF_data, List.length_map]
theorem strF_app (l m : List Int) : strF (l ++ m) = strF l ++ strF m := by
  have : (strF (l ++ m)).data = (strF l ++ strF m).data := by
    apply Array.toList_inj.1
    rw [ByteArray.data_append, Array.toList_append, strF_data, strF_data, strF_data, List.map_append]
  cases h1 : strF (l ++ m)
  cases h2 : strF l ++ strF m
  rw [h1, h2] at this
  simp only at this
  rw [this]
theorem strF_nil : strF [] = ⟨#[]⟩ := rfl
/-- The text of a list of digits. -/
def serS (l : List Int) : ByteArray := strF (l.map fun d => 48 + d)
theorem serS_size (l : List Int) : (serS l).size = l.length := by unfold serS; rw [strF_size, List.length_map]
theorem serS_nil : serS [] = ⟨#[]⟩ := rfl
theorem serS_snoc (l : List Int) (x : Int) : serS (l ++ [x]) = serS l ++ strF [48 + x] := by unfold serS; rw [List.map_append, strF_app]; rfl

abbrev U8 (x : Int) : Value := .int .u8 x

/-- string(b) of a block that is known whole. -/
theorem run_string_row {w : World} {g : Nat} {t : TypeId} {l : List Int} (hr : Row w g t (l.map U8)) (n c : Nat) (hn : n = l.length) :
    (convert 72 9 (.slice (some ⟨g, 0, none⟩) n c)).run Tryz.prog w = .ok (.string (strF l)) w := by
  rw [run_convert_bytes_string w 72 9 5 _ _ _ Tryz.underlying72 Tryz.underlying5 Tryz.underlying9]
  subst hn
  unfold strF
  refine run_bytesToString w _ _ _ l ?_
  have := run_loadCells_list (P := Tryz.prog) (w := w) ⟨g, 0, none⟩ (l.map U8) (fun j v hj => by
    have e : (⟨g, 0, none⟩ : Addr).add j = ⟨g, j, none⟩ := by unfold Addr.add; split <;> simp_all
    rw [e, hr.cell? j]; exact hj)
  simpa using this

theorem infoU8 : (Tryz.prog.info? 5).map (fun i => (i.zero, i.size, i.bytes)) = some (some (.int .u8 0), 1, 1) := by kernel_rfl
theorem U8_set {l : List Int} {n k : Nat} (hl : l.length = n) (hk : k < n) : (((l.take k).map fun d => 48 + d) ++ List.replicate (n - k) 0).set k (48 + l[k]'(by omega)) = ((l.take (k + 1)).map fun d => 48 + d) ++ List.replicate (n - (k + 1)) 0 := by
  have h1 : ((l.take k).map fun d => 48 + d).length = k := by rw [List.length_map, List.length_take]; omega
  rw [List.set_append_right _ _ (by omega), h1, Nat.sub_self]
  obtain ⟨m, hm⟩ : ∃ m, n - k = m + 1 := ⟨n - k - 1, by omega⟩
  rw [hm, show n - (k + 1) = m by omega, List.replicate_succ, List.set_cons_zero, List.take_succ_eq_append_getElem (by omega), List.map_append, List.append_assoc]; rfl

set_option maxHeartbeats 1000000 in
set_option maxRecDepth 100000 in
theorem sserial_none (p : Option Addr) (n : Int) (w : World) (h : n < 1 ∨ 8 < n) :
    Calls Tryz.prog 20 #[.int .i64 n, .pointer p] w (Pure (.tuple #[.string ⟨#[]⟩, .int .i64 2]) w) := by
  rcases h with h | h
  all_goals
    go_enter Tryz.func20, Tryz.ntmps20
    go_wp2
    go_ret2
    exact ⟨rfl, rfl⟩
set_option maxHeartbeats 1000000 in
set_option maxRecDepth 100000 in
theorem sserial_nil (n : Int) (w : World) (h1 : 1 ≤ n) (h2 : n ≤ 8) :
    Calls Tryz.prog 20 #[.int .i64 n, .pointer none] w (Pure (.tuple #[.string ⟨#[]⟩, .int .i64 5]) w) := by
  go_enter Tryz.func20, Tryz.ntmps20
  go_wp2
  go_ret2
  exact ⟨rfl, rfl⟩

set_option maxHeartbeats 4000000 in
set_option maxRecDepth 100000 in
theorem sserial_ok (b n : Nat) (s : St) (w : World) (h : StA 58 w b s) (h1 : 1 ≤ n) (h2 : n ≤ 8) :
    Calls Tryz.prog 20 #[.int .i64 (n : Int), .pointer (some ⟨b, 0, none⟩)] w (PostS 58 (.tuple #[.string (serS (drawL n 10 [] s).1.1), .int .i64 (drawL n 10 [] s).1.2]) b (drawL n 10 [] s).2 w) := by
  have cc := hide (collect_any b 10 n s w h (by omega) (by omega) (by omega))
  have hf := drawL_facts (k := n) (n := 10) (acc := []) (s := s) (by omega) (by simp)
  have hbad : (drawL n 10 [] s).1.2 ≠ 0 → (drawL n 10 [] s).1.1 = [] := fun h => drawL_bad h
  have hb := h.lt
  clear h
  obtain ⟨R, hR⟩ : ∃ R, R = drawL n 10 [] s := ⟨_, rfl⟩
  rw [← hR] at cc hf hbad ⊢
  clear hR
  obtain ⟨⟨l, c⟩, st⟩ := R
  simp only [] at hf hbad ⊢
  have a1 : (1 : Int) ≤ (n : Int) := by omega
  have a2 : (n : Int) ≤ 8 := by omega
  have hn2 := hide h2
  by_cases hc : c = 0
  · subst hc
    obtain ⟨hl, hd⟩ := hf rfl
    rw [List.length_nil, Nat.zero_add] at hl
    replace hl := hide hl
    replace hd := hide hd
    clear hbad h1 h2
    go_enter Tryz.func20, Tryz.ntmps20
    go_wp2_with fail
    refine cc.out.mono ?_
    rintro e w1 ⟨v, rfl, hown, hS, hG⟩
    simp only [] at hown hS
    have hrd := hown.rd
    obtain ⟨ao, m, cap, rfl⟩ := Rd.shape hrd
    have hm := Rd.len_eq hrd
    rw [hl.out] at hm
    subst hm
    clear hown cc
    go_wp2_with (with_reducible refine wpList_make_row _ rfl _ _ 72 rfl 5 (.int .u8 0) 1 Tryz.underlying72 infoU8 rfl .i64 .i64 _ _ m m rfl rfl (by omega) (by omega) (Nat.le_refl _) (by omega) (by omega) ?_; intro W hrow bW sW)
    obtain ⟨g, hg⟩ : ∃ g, g = w1.heap.size := ⟨_, rfl⟩
    have hgw : w1.heap.size ≤ g := by omega
    rw [← hg] at hrow ⊢
    clear hg sW
    go_wp2
    go_loopg [33] m (fun gh t wr => ∃ k : Nat, gh = m - k ∧ k ≤ m ∧ t = .int .i64 (k : Int) ∧ Row wr g 5 ((((l.take k).map fun d => 48 + d) ++ List.replicate (m - k) 0).map U8) ∧ Below w1.heap.size w1 wr)
    case atStart => exact ⟨0, rfl, Nat.zero_le _, rfl, by simpa [List.map_replicate] using hrow, bW⟩
    case round =>
      obtain ⟨k, hgh, hk, rfl, hR, hB⟩ := hrel
      replace hgh := hide hgh
      by_cases hlt : k < m
      · have hlt2 := hide hlt
        obtain ⟨bb, off, rfl, hbb, hcell⟩ := hrd.at_ (k := k) (by rw [hl.out]; exact hlt)
        obtain ⟨x, hx⟩ : ∃ x, x = l[k]'(by rw [hl.out]; exact hlt) := ⟨_, rfl⟩
        have c0 : wr.cell? ⟨bb, off + k, none⟩ = some (.int .i64 x) := Bel.cellOf hB (by rw [hx]; exact hcell k (by rw [hl.out]; exact hlt))
        have hxr := hd.out x (by rw [hx]; exact List.getElem_mem _)
        obtain ⟨x1, x2⟩ := hxr
        have j1 : (0 : Int) ≤ (k : Int) := by omega
        have j2 : (k : Int) < (m : Int) := by omega
        obtain ⟨y, c1⟩ : ∃ y, wr.cell? ⟨g, k, none⟩ = some (U8 y) := ⟨_, hR.cellV (i := k) (by rw [List.length_append, List.length_map, List.length_take, List.length_replicate]; have := hl.out; omega)⟩
        have f1 := Row.frozen hR k
        have hset := U8_set hl.out hlt
        rw [← hx] at hset
        have hR2 := hR.setV k (48 + x)
        rw [hset] at hR2
        have hB2 := Bel.st hB (p := ⟨g, k, none⟩) hgw (U8 (48 + x))
        replace hR2 := hide hR2
        replace hx := hide hx
        clear hB hset hcell hR
        go_wp2
        go_roundg (m - (k + 1))
        case measure => have := hgh.out; have := hlt2.out; omega
        case rel => exact ⟨k + 1, rfl, by have := hlt2.out; omega, by go_num, hR2.out, hB2⟩
      · have hkn : k = m := by omega
        subst hkn
        rw [Nat.sub_self, List.replicate_zero, List.append_nil] at hR
        have e : l.take k = l := List.take_of_length_le (by rw [hl.out]; exact Nat.le_refl _)
        rw [e] at hR
        have hcv := run_string_row hR k k (by rw [List.length_map, hl.out])
        rw [show strF (l.map fun d => 48 + d) = serS l from rfl] at hcv
        have hS2 := hS.keep hB
        have hG2 := Gb.to hG (Gb.ofBelow hB (some b))
        clear hR hS hG hB e hrd hrow bW
        go_wp2
        go_ret2
        exact ⟨rfl, hS2, hG2⟩
  · have hl : l = [] := hbad hc
    subst hl
    have hcn : (c != 0) = true := by simpa using hc
    replace hc := hide hc
    clear hf hbad h1 h2
    rw [serS_nil]
    go_enter Tryz.func20, Tryz.ntmps20
    go_wp2_with fail
    refine cc.out.mono ?_
    rintro e w1 ⟨v, rfl, hown, hS, hG⟩
    obtain ⟨ao, m, cap, rfl⟩ := Rd.shape hown.rd
    clear hown
    go_wp2
    go_ret2
    exact ⟨rfl, hS, hG⟩

theorem sserial_any (b : Nat) (n : Int) (s : St) (w : World) (h : StA 58 w b s) :
    Calls Tryz.prog 20 #[.int .i64 n, .pointer (some ⟨b, 0, none⟩)] w (PostS 58 (.tuple #[.string (serS (serialP n s).1.1), .int .i64 (serialP n s).1.2]) b (serialP n s).2 w) := by
  unfold serialP
  by_cases hn : n < 1 ∨ 8 < n
  · rw [if_pos hn]
    exact (sserial_none _ n w hn).mono fun e w' ⟨h1, h2⟩ => by subst h2; exact ⟨h1, h, Gb.refl _ _⟩
  · rw [if_neg hn]
    obtain ⟨n, rfl⟩ := Int.eq_ofNat_of_zero_le (show 0 ≤ n by omega)
    rw [Int.toNat_natCast]
    exact sserial_ok b n s w h (by omega) (by omega)
end Go.Proofs.YtokhhccokjfgjaaGreat
end

section
/- lotterylaw14.few, same, Game, awake. No condition. -/
open Go.RowKit
set_option linter.unusedVariables false
set_option linter.unusedSimpArgs false
namespace Go.Proofs.YtokhhccokjfgjaaGreat

/-- A bool. -/
def SomeB (w : World) (e : Ending) (w' : World) : Prop := ∃ b, e = .returned (.bool b) ∧ Below w.heap.size w w'

set_option maxHeartbeats 2000000 in
set_option maxRecDepth 100000 in
theorem few14_any (g : GameD) (av tv : Value) (ms : List AddonM) (w : World) (h : GameR w av tv ms g) : Calls Tryz.prog 5 #[gameVal g av tv] w (SomeB w) := by
  have hh := hide h
  obtain ⟨aa, ac, rfl, hal, ham⟩ := h.1.1.shape
  obtain ⟨ta, tc, rfl, htl, htm⟩ := h.2.2.shape
  clear h
  unfold maxLen at ham htm
  unfold gameVal
  go_enter Tryz.func5, Tryz.ntmps5
  go_upto_region 1 with (fail)
  obtain ⟨W, hW⟩ : ∃ W, W = (w.alloc (Obj.cells #[.string g.name, .int .i64 g.kind, .int .i64 g.price, .int .i64 g.main, .int .i64 g.of, .int .i64 g.bonus, .int .i64 g.bonusOf, .int .i64 g.extra, .int .i64 g.draws, .int .i64 g.system, .int .i64 g.days, .int .i64 g.at_, .int .i64 g.close, .int .i64 g.cancel, .int .i64 g.expiry, .int .i64 g.pool, .int .i64 g.reserve, .int .i64 g.round, .int .i64 g.cap, .int .i64 g.rolls, (.slice aa ms.length ac), (.slice ta g.tiers.length tc)] 25)) := ⟨_, rfl⟩
  have bW : Below w.heap.size w W := by rw [hW]; exact Bel.al (Below.refl _ _) _
  have r0 : GameAt W (w.heap.size) g ((.slice aa ms.length ac)) ((.slice ta g.tiers.length tc)) := by rw [hW]; exact Row.new _ _ _
  have sW : w.heap.size < W.heap.size := by rw [hW]; simp
  rw [← hW]
  clear hW
  have c20 := r0.addons
  have c21 := r0.tiers
  have hW := hide (hh.out.below bW)
  clear hh
  by_cases h1 : (50 : Int) < (ms.length : Int)
  · go_wp2
    go_ret
    exact ⟨_, rfl, bW⟩
  · by_cases h2 : (50 : Int) < (g.tiers.length : Int)
    · go_wp2
      go_ret
      exact ⟨_, rfl, bW⟩
    · go_wp2
      go_loopg [17] ms.length (fun gh t wr => ∃ k : Nat, gh = ms.length - k ∧ k ≤ ms.length ∧ t = .int .i64 (k : Int) ∧ wr = W)
      case atStart => exact ⟨0, rfl, Nat.zero_le _, rfl, rfl⟩
      case round =>
        obtain ⟨k, hgh, hk, rfl, rfl⟩ := hrel
        replace hgh := hide hgh
        by_cases hlt : k < ms.length
        · have hlt2 := hide hlt
          obtain ⟨m, hm⟩ : ∃ m, ms[k]? = some m := ⟨_, List.getElem?_eq_getElem hlt⟩
          obtain ⟨b, off, rfl, hbb, hcell⟩ := hW.out.1.1.at_ (i := k) hlt
          obtain ⟨hf, hp⟩ := hW.out.1.2 k m hm
          obtain ⟨f1, f2, f3, hfv⟩ := Rd.shape hf
          obtain ⟨p1, p2, p3, hpv⟩ := Rd.shape hp
          have c3 : wr.cell? ⟨b, off + k * 6 + 3, none⟩ = some (.slice f1 f2 f3) := by rw [hcell k m hm 3 m.fv rfl, hfv]
          have c5 : wr.cell? ⟨b, off + k * 6 + 5, none⟩ = some (.slice p1 p2 p3) := by rw [hcell k m hm 5 m.pv rfl, hpv]
          have j1 : (0 : Int) ≤ (k : Int) := by omega
          have j2 : (k : Int) < (ms.length : Int) := by omega
          clear hcell hf hp hfv hpv hm
          by_cases h3 : (50 : Int) < (f2 : Int)
          · go_wp2
            go_ret
            exact ⟨_, rfl, bW⟩
          · by_cases h4 : (50 : Int) < (p2 : Int)
            · go_wp2
              go_ret
              exact ⟨_, rfl, bW⟩
            · go_wp2
              go_roundg (ms.length - (k + 1))
              case measure => have := hgh.out; have := hlt2.out; omega
              case rel => exact ⟨k + 1, rfl, by have := hlt2.out; omega, by go_num, rfl⟩
        · have hkn : k = ms.length := by omega
          go_wp2
          go_ret
          exact ⟨_, rfl, bW⟩

theorem rangeAt_keep {X Y : World} {b off : Nat} {cs : List Value} (h : X.rangeAt b off cs) (hb : Below X.heap.size X Y) : Y.rangeAt b off cs := fun j v hv => Bel.cellOf hb (h j v hv)

set_option maxHeartbeats 4000000 in
set_option maxRecDepth 100000 in
/-- Two lists of the same lines. -/
theorem same14_self (va vb : Value) (ls : List LineD) (w : World) (ha : LinesR w va ls) (hb : LinesR w vb ls) : Calls Tryz.prog 9 #[va, vb] w (BoolB true w) := by
  obtain ⟨n, hn⟩ : ∃ n, n = ls.length := ⟨_, rfl⟩
  obtain ⟨a1, c1, rfl, hc1, hm1⟩ := ha.shape
  obtain ⟨a2, c2, rfl, hc2, hm2⟩ := hb.shape
  rw [← hn] at ha hb hc1 hc2 ⊢
  unfold maxLen at hm1 hm2
  have hn9 : n ≤ 9223372036854775807 := by omega
  have hha := hide ha
  have hhb := hide hb
  replace hn := hide hn
  clear ha hb
  go_enter Tryz.func9, Tryz.ntmps9
  go_wp2
  go_loopg [13] n (fun gh t wr => ∃ k : Nat, gh = n - k ∧ k ≤ n ∧ t = .int .i64 (k : Int) ∧ Below w.heap.size w wr)
  case atStart => exact ⟨0, rfl, Nat.zero_le _, rfl, Below.refl _ _⟩
  case round =>
    obtain ⟨k, hgh, hk, rfl, hB⟩ := hrel
    replace hgh := hide hgh
    by_cases hlt : k < n
    · have hlt2 := hide hlt
      have hlk : k < ls.length := by rw [← hn.out]; exact hlt
      obtain ⟨b1, off1, p1, q1, rfl, hb1, x1, y1, l1⟩ := (hha.out.below hB).at_ hlk
      obtain ⟨b2, off2, p2, q2, rfl, hb2, x2, y2, l2⟩ := (hhb.out.below hB).at_ hlk
      have g1 : wr.rangeAt b1 (off1 + k * 2) [p1, q1] := by
        intro j v hv
        match j, hv with
        | 0, hv => simp at hv; subst hv; exact x1
        | 1, hv => simp at hv; subst hv; exact y1
      have g2 : wr.rangeAt b2 (off2 + k * 2) [p2, q2] := by
        intro j v hv
        match j, hv with
        | 0, hv => simp at hv; subst hv; exact x2
        | 1, hv => simp at hv; subst hv; exact y2
      have cS := hide (same13_self p1 q1 p2 q2 ls[k].1 ls[k].2 wr.drew l1 l2)
      unfold lineVal at cS
      have j1 : (0 : Int) ≤ (k : Int) := by omega
      have j2 : (k : Int) < (n : Int) := by omega
      clear l1 l2 x1 x2 y1 y2
      go_upto_region 6 with (fail)
      refine wp_region_held_drew (S := fun X => X.rangeAt b1 (off1 + k * 2) [p1, q1] ∧ X.rangeAt b2 (off2 + k * 2) [p2, q2]) (by kernel_rfl) (⟨g1, g2⟩) (fun hHeld => ?_)
      refine' wpAnyH_take (i := 0) (oi := _) (v := .slice (some ⟨b1, off1, none⟩) n c1) rfl (by kernel_rfl) (by kernel_rfl) (by kernel_rfl) (fun _ _ _ h => h) (Or.inl ⟨by rfl, fun X _ => by go_simp⟩) hHeld ?_
      try simp only [Act.put, List.setIfInBounds_toArray, List.set_cons_zero, List.set_cons_succ]
      refine' wpAnyH_take (i := 1) (oi := _) (v := .int .i64 (k : Int)) rfl (by kernel_rfl) (by kernel_rfl) (by kernel_rfl) (fun _ _ _ h => h) (Or.inl ⟨by rfl, fun X _ => by go_simp⟩) hHeld ?_
      try simp only [Act.put, List.setIfInBounds_toArray, List.set_cons_zero, List.set_cons_succ]
      refine' wpAnyH_take (i := 2) (oi := _) (v := .pointer (some ⟨b1, off1 + k * 2, none⟩)) rfl (by kernel_rfl) (by kernel_rfl) (by kernel_rfl) (fun _ _ _ h => h) (Or.inl ⟨by rfl, fun X _ => by go_simp⟩) hHeld ?_
      try simp only [Act.put, List.setIfInBounds_toArray, List.set_cons_zero, List.set_cons_succ]
      refine' wpAnyH_take (i := 3) (oi := _) (v := _) rfl (by kernel_rfl) (by kernel_rfl) (by kernel_rfl) (fun _ _ _ h => h) (yieldsIf_load_mid (by first | (go_simp; done) | rfl) 42 _ rfl _ _ rfl ([p1, q1]) _ (fun X h => h.1) Tryz.underlying42 rfl (by kernel_rfl)) hHeld ?_
      try simp only [Act.put, List.setIfInBounds_toArray, List.set_cons_zero, List.set_cons_succ]
      refine' wpAnyH_take (i := 4) (oi := _) (v := .slice (some ⟨b2, off2, none⟩) n c2) rfl (by kernel_rfl) (by kernel_rfl) (by kernel_rfl) (fun _ _ _ h => h) (Or.inl ⟨by rfl, fun X _ => by go_simp⟩) hHeld ?_
      try simp only [Act.put, List.setIfInBounds_toArray, List.set_cons_zero, List.set_cons_succ]
      refine' wpAnyH_take (i := 5) (oi := _) (v := .int .i64 (k : Int)) rfl (by kernel_rfl) (by kernel_rfl) (by kernel_rfl) (fun _ _ _ h => h) (Or.inl ⟨by rfl, fun X _ => by go_simp⟩) hHeld ?_
      try simp only [Act.put, List.setIfInBounds_toArray, List.set_cons_zero, List.set_cons_succ]
      refine' wpAnyH_take (i := 6) (oi := _) (v := .pointer (some ⟨b2, off2 + k * 2, none⟩)) rfl (by kernel_rfl) (by kernel_rfl) (by kernel_rfl) (fun _ _ _ h => h) (Or.inl ⟨by rfl, fun X _ => by go_simp⟩) hHeld ?_
      try simp only [Act.put, List.setIfInBounds_toArray, List.set_cons_zero, List.set_cons_succ]
      refine' wpAnyH_take (i := 7) (oi := _) (v := _) rfl (by kernel_rfl) (by kernel_rfl) (by kernel_rfl) (fun _ _ _ h => h) (yieldsIf_load_mid (by first | (go_simp; done) | rfl) 42 _ rfl _ _ rfl ([p2, q2]) _ (fun X h => h.2) Tryz.underlying42 rfl (by kernel_rfl)) hHeld ?_
      try simp only [Act.put, List.setIfInBounds_toArray, List.set_cons_zero, List.set_cons_succ]
      refine wpAnyH_ready (rs := [8]) (by kernel_rfl) (by simp) ?_
      refine AllReadyH.cons (o := _) rfl (fun K hK => ?_) AllReadyH.nil
      go_simp
      refine (cS.out).mono ?_
      rintro e w3 ⟨rfl, hb3⟩
      go_wp2_with fail
      refine hK.out _ _ (⟨rangeAt_keep hHeld.1 hb3, rangeAt_keep hHeld.2 hb3⟩) (fun hHeld => ?_)
      clear hK K
      try simp only [Act.put, List.setIfInBounds_toArray, List.set_cons_zero, List.set_cons_succ]
      refine' wpAnyH_take (i := 9) (oi := _) (v := .bool false) rfl (by kernel_rfl) (by kernel_rfl) (by kernel_rfl) (fun _ _ _ h => h) (Or.inl ⟨by rfl, fun X _ => by go_simp⟩) hHeld ?_
      try simp only [Act.put, List.setIfInBounds_toArray, List.set_cons_zero, List.set_cons_succ]
      refine wpAnyH_done (by kernel_rfl) ?_ _
      go_simp
      go_wp2
      go_roundg (n - (k + 1))
      case measure => have := hgh.out; have := hlt2.out; omega
      case rel => exact ⟨k + 1, rfl, by have := hlt2.out; omega, by go_num, Bel.to (Bel.to hB (Below.drewSelf _)) hb3⟩
    · have hkn : k = n := by omega
      go_wp2
      go_ret
      exact ⟨rfl, hB⟩

set_option maxRecDepth 100000 in
theorem game14_any (w : World) : Calls Tryz.prog 19 #[] w (GameB pickG w) := by
  go_enter Tryz.func19, Tryz.ntmps19
  go_upto_region 1 with (fail)
  obtain ⟨W, hW⟩ : ∃ W, W = (w.alloc (Obj.cells #[.string ⟨#[]⟩, .int .i64 0, .int .i64 0, .int .i64 0, .int .i64 0, .int .i64 0, .int .i64 0, .int .i64 0, .int .i64 0, .int .i64 0, .int .i64 0, .int .i64 0, .int .i64 0, .int .i64 0, .int .i64 0, .int .i64 0, .int .i64 0, .int .i64 0, .int .i64 0, .int .i64 0, .slice none 0 0, .slice none 0 0] 25)) := ⟨_, rfl⟩
  have bW : Below w.heap.size w W := by rw [hW]; exact Bel.al (Below.refl _ _) _
  have r0 : Row W ((w.heap.size)) 25 [.string ⟨#[]⟩, .int .i64 0, .int .i64 0, .int .i64 0, .int .i64 0, .int .i64 0, .int .i64 0, .int .i64 0, .int .i64 0, .int .i64 0, .int .i64 0, .int .i64 0, .int .i64 0, .int .i64 0, .int .i64 0, .int .i64 0, .int .i64 0, .int .i64 0, .int .i64 0, .int .i64 0, .slice none 0 0, .slice none 0 0] := by rw [hW]; exact Row.new _ _ _
  have sW : w.heap.size < W.heap.size := by rw [hW]; simp
  rw [← hW]
  clear hW
  go_wp2_with (first | (with_reducible refine wpList_store_whole rfl 25 _ _ rfl w.heap.size _ rfl rfl 25 _ (Row.alloc r0 _) ?_ ?_ ?_ ?_) | fail)
  case refine_1 => kernel_rfl
  case refine_2 => rfl
  case refine_3 => simp [Value.oneCell']
  intro W2 hrow hgr
  have hw : Below w.heap.size w W2 := Below.grown (Bel.al bW _) hgr (by simp; omega) (fun k hk => by injection hk with hk; omega)
  have htier : Row W2 W.heap.size 71 (tierCells ⟨3, 0, 0, 0, 1, 1⟩) := Row.grown (Row.new W 71 (tierCells ⟨3, 0, 0, 0, 1, 1⟩)) hgr (by intro e; injection e with e; omega)
  have hG : GameR W2 (.slice none 0 0) (.slice (some ⟨W.heap.size, 0, none⟩) 1 1) [] pickG := GameR.oneTier htier rfl rfl
  go_wp2
  exact bodyPost_ret (v := gameVal pickG (.slice none 0 0) (.slice (some ⟨W.heap.size, 0, none⟩) 1 1)) (results_cell_row rfl _ _ w.heap.size 25 _ (0, 0) _ rfl hrow Tryz.underlying25 rfl (by kernel_rfl)) rfl ⟨_, _, _, rfl, hG, hw⟩
end Go.Proofs.YtokhhccokjfgjaaGreat
end

section
/- lotterylaw14.awake: the examples are right. No condition. -/
open Go.RowKit
set_option linter.unusedVariables false
set_option linter.unusedSimpArgs false
namespace Go.Proofs.YtokhhccokjfgjaaGreat

theorem pick_seen : ((serialP 8 (1, 0)).1.2 = 0) ∧ (serS (serialP 8 (1, 0)).1.1).size = 8 := by
  have e : serialP 8 (1, 0) = drawL 8 10 [] (1, 0) := if_neg (by omega)
  have h := drawL_facts (k := 8) (n := 10) (acc := []) (s := (1, 0)) (by omega) (by simp)
  have h0 := pick_serial
  rw [e, serS_size]
  obtain ⟨R, hR⟩ : ∃ R, R = drawL 8 10 [] (1, 0) := ⟨_, rfl⟩
  rw [← hR] at h h0 ⊢
  exact ⟨h0, (h h0).1⟩

set_option maxHeartbeats 4000000 in
set_option maxRecDepth 100000 in
theorem awake14_any (w : World) : Calls Tryz.prog 6 #[] w (BoolB true w) := by
  have cS : ∀ X (b : Nat), StA 58 X b (1, 0) → Calls Tryz.prog 20 #[.int .i64 8, .pointer (some ⟨b, 0, none⟩)] X (PostS 58 (.tuple #[.string (serS (serialP 8 (1, 0)).1.1), .int .i64 (serialP 8 (1, 0)).1.2]) b (serialP 8 (1, 0)).2 X) := fun X b h => sserial_any b 8 (1, 0) X h
  have hp := pick_seen
  obtain ⟨R, hR⟩ : ∃ R, R = serialP 8 (1, 0) := ⟨_, rfl⟩
  rw [← hR] at hp
  rw [← hR] at cS
  clear hR
  obtain ⟨⟨l, c⟩, st⟩ := R
  simp only [] at hp cS
  obtain ⟨rfl, hsz⟩ := hp
  obtain ⟨S, hS⟩ : ∃ S, S = serS l := ⟨_, rfl⟩
  rw [← hS] at hsz cS
  clear hS
  replace cS := hide cS
  have cN : ∀ X, Calls Tryz.prog 10 #[.int .u64 1] X (fun e w' => e = .returned (.pointer (some ⟨X.heap.size, 0, none⟩)) ∧ StA 58 w' X.heap.size (1, 0) ∧ Below X.heap.size X w' ∧ w'.heap.size = X.heap.size + 1) := fun X => snew_any 1 X
  replace cN := hide cN
  have hz1 : ((S.size : Int) == 8) = true := by rw [hsz]; rfl
  replace hsz := hide hsz
  go_enter Tryz.func6, Tryz.ntmps6
  go_wp2_with fail
  refine (game14_any _).mono ?_
  rintro e w1 ⟨av, tv, ms, rfl, hG, hb1⟩
  have cL : Calls Tryz.prog 7 #[gameVal pickG av tv, .int .u64 5, .int .i64 2] w1 (LinesC (linesP pickG 5 2).1 (linesP pickG 5 2).2 w1) := qlines_any pickG av tv ms 5 2 w1 hG
  rw [pick_lines] at cL
  replace cL := hide cL
  obtain ⟨G, hGv⟩ : ∃ G, G = gameVal pickG av tv := ⟨_, rfl⟩
  rw [← hGv] at cL ⊢
  clear hGv hG
  go_wp2_with fail
  refine cL.out.mono ?_
  rintro e w2 ⟨v, rfl, hv, hb2⟩
  have B2 := Bel.to hb1 hb2
  obtain ⟨va, vc, hve, -, -⟩ := hv.shape
  have hve2 : v = .slice va 2 vc := hve
  clear hve
  subst hve2
  clear hb1 hb2 cL
  go_wp2_with fail
  refine (cN.out _).mono ?_
  rintro e w3 ⟨rfl, hSt, hb3, hz3⟩
  have B3 := Bel.to B2 hb3
  replace hz3 := hide hz3
  clear cN
  go_wp2_with fail
  refine (cS.out _ _ hSt).mono ?_
  rintro e w4 ⟨rfl, hSt4, hG4⟩
  have hb4 : Below w2.heap.size w2 w4 := Gb.bel hb3 hG4 (Nat.le_refl _)
  have B4 := Bel.to B2 hb4
  replace hv := hv.below hb4
  obtain ⟨W, hW⟩ : ∃ W, W = (((w4.alloc (Obj.cells #[.int .i64 1, .int .i64 2, .int .i64 3] 3)).alloc (Obj.cells #[.int .i64 1, .int .i64 2, .int .i64 3] 3)).alloc (Obj.cells #[.slice (some ⟨w4.heap.size, 0, none⟩) 3 3, .slice none 0 0, .slice (some ⟨w4.heap.size + 1, 0, none⟩) 3 3, .slice none 0 0] 42)) := ⟨_, rfl⟩
  have bW : Below w4.heap.size w4 W := by rw [hW]; exact Bel.al (Bel.al (Bel.al (Below.refl _ _) _) _) _
  have q1 : Rd I64 W (.slice (some ⟨w4.heap.size, 0, none⟩) 3 3) [1, 2, 3] := by rw [hW]; exact Rd.alloc (Rd.alloc (Rd.new [1, 2, 3] rfl rfl (Nat.le_refl _) (by decide) rfl) _) _
  have q2 : Rd I64 W (.slice (some ⟨w4.heap.size + 1, 0, none⟩) 3 3) [1, 2, 3] := by rw [hW]; exact Rd.alloc (Rd.new [1, 2, 3] (by simp) rfl (Nat.le_refl _) (by decide) rfl) _
  have q3 : Row W (w4.heap.size + 1 + 1) 42 [.slice (some ⟨w4.heap.size, 0, none⟩) 3 3, .slice none 0 0, .slice (some ⟨w4.heap.size + 1, 0, none⟩) 3 3, .slice none 0 0] := by rw [hW]; exact Row.at3 _ _ _ _ _
  have hlit : LinesR W (.slice (some ⟨w4.heap.size + 1 + 1, 0, none⟩) 2 2) [([1, 2, 3], []), ([1, 2, 3], [])] := by
    refine ⟨[(.slice (some ⟨w4.heap.size, 0, none⟩) 3 3, .slice none 0 0), (.slice (some ⟨w4.heap.size + 1, 0, none⟩) 3 3, .slice none 0 0)], ⟨_, 2, rfl, Nat.le_refl _, by unfold maxLen; omega, fun _ => ⟨_, 0, rfl, q3.lt, ?_⟩⟩, rfl, ?_⟩
    · intro i x hx j u hu
      rw [Nat.zero_add, q3.cell?]
      match i, hx, j, hu with
      | 0, hx, 0, hu => simp at hx; subst hx; simpa [LnV] using hu
      | 0, hx, 1, hu => simp at hx; subst hx; simpa [LnV] using hu
      | 1, hx, 0, hu => simp at hx; subst hx; simpa [LnV] using hu
      | 1, hx, 1, hu => simp at hx; subst hx; simpa [LnV] using hu
      | 0, hx, j + 2, hu => simp [LnV] at hu
      | 1, hx, j + 2, hu => simp [LnV] at hu
    · intro i p x hp hx
      match i, hp, hx with
      | 0, hp, hx => simp at hp hx; subst hp hx; exact ⟨q1, Rd.nil⟩
      | 1, hp, hx => simp at hp hx; subst hp hx; exact ⟨q2, Rd.nil⟩
  have cE := hide (same14_self _ _ _ W (hv.below bW) hlit)
  have B5 := Bel.to B4 bW
  clear hv hlit q1 q2 q3 bW hb3 hb4 hG4 hSt4 hSt
  go_wp2_with fail
  rw [← hW]
  refine cE.out.mono ?_
  rintro e w6 ⟨rfl, hb6⟩
  go_wp2
  go_ret
  exact ⟨rfl, Bel.to B5 hb6⟩
end Go.Proofs.YtokhhccokjfgjaaGreat
end

section
/- lotteryref09.rising, Sample: a sample. Condition: at least one number out of at most 1000. -/
open Go.RowKit
set_option linter.unusedVariables false
set_option linter.unusedSimpArgs false
namespace Go.Proofs.YtokhhccokjfgjaaGreat

def OwnP (l : List Int) (w : World) (e : Ending) (w' : World) : Prop := ∃ v, e = .returned v ∧ Own I64 w' w.heap.size 3 v l ∧ Below w.heap.size w w'

theorem Own.cellAt {w : World} {base e g n cap j : Nat} {l : List Int} (h : Own I64 w base e (.slice (some ⟨g, 0, none⟩) n cap) l) (hj : j < l.length) : w.cell? ⟨g, j, none⟩ = some (I64 l[j]) := by
  have hn : n = l.length := by have := (Rd.len_eq h.rd); exact this
  subst hn
  have := World.ownsRow.cellAt h j (by omega)
  rw [this, List.getElem?_map, List.getElem?_eq_getElem hj]; rfl
theorem Own.frozenAt {w : World} {base e g n cap : Nat} {l : List Int} (h : Own I64 w base e (.slice (some ⟨g, 0, none⟩) n cap) l) (j : Nat) : w.frozen? ⟨g, j, none⟩ = false := by
  have hn : n = l.length := by have := (Rd.len_eq h.rd); exact this
  subst hn
  exact World.ownsRow.frozenAt h j
theorem Own.stored {w : World} {base e g n cap : Nat} {l : List Int} (h : Own I64 w base e (.slice (some ⟨g, 0, none⟩) n cap) l) (j : Nat) (x : Int) :
    Own I64 (w.setCell ⟨g, j, none⟩ (I64 x)) base e (.slice (some ⟨g, 0, none⟩) n cap) (l.set j x) ∧ w.grownBy (w.setCell ⟨g, j, none⟩ (I64 x)) (some g) := by
  have hn : n = l.length := by have := (Rd.len_eq h.rd); exact this
  subst hn
  obtain ⟨h1, h2⟩ := World.ownsRow.stored h j (I64 x)
  refine ⟨?_, h2⟩
  unfold Own
  rw [List.length_set, List.map_set]
  exact h1
theorem Own.take {w : World} {base e g n cap k : Nat} {l : List Int} (h : Own I64 w base e (.slice (some ⟨g, 0, none⟩) n cap) l) (hk : k ≤ l.length) : Own I64 w base e (.slice (some ⟨g, 0, none⟩) k cap) (l.take k) := by
  have hn : n = l.length := by have := (Rd.len_eq h.rd); exact this
  subst hn
  have hl : (l.take k).length = k := by rw [List.length_take]; omega
  rcases h.2 with ⟨h', _⟩ | ⟨g', cap', cur, h', hb, hg, hnc, hcm, hsz, htake⟩
  · simp at h'
  · simp only [Value.slice.injEq, Option.some.injEq, Addr.mk.injEq, and_true, true_and] at h'
    obtain ⟨rfl, rfl⟩ := h'
    refine ⟨by simp, .inr ⟨g, cap, cur, by rw [hl], hb, hg, by omega, hcm, hsz, ?_⟩⟩
    rw [hl, List.map_take, ← htake, List.take_take, Nat.mul_one, Nat.mul_one, Nat.min_eq_left hk]
theorem Own.capLe {w : World} {base e g n cap : Nat} {l : List Int} (h : Own I64 w base e (.slice (some ⟨g, 0, none⟩) n cap) l) : l.length ≤ cap ∧ cap ≤ maxLen := by
  obtain ⟨ao, cap', e1, h1, h2, -⟩ := h.rd
  injection e1 with _ _ e3
  subst e3
  exact ⟨h1, h2⟩

set_option maxHeartbeats 2000000 in
set_option maxRecDepth 100000 in
theorem rising_any (n : Nat) (w : World) (hn : n ≤ 1000) : Calls Tryz.prog 49 #[.int .i64 (n : Int)] w (OwnP (ascL n) w) := by
  have hn2 := hide hn
  have a1 : (n : Int) ≤ 1000 := by omega
  go_enter Tryz.func49, Tryz.ntmps49
  go_wp2
  go_loopg [3, 4] n (fun gh v t wr => ∃ (k : Nat) (ao : Option Addr) (m cap : Nat), gh = n - k ∧ k ≤ n ∧ v = .slice ao m cap ∧ t = .int .i64 ((k : Int) + 1) ∧ Own I64 wr w.heap.size 3 (.slice ao m cap) (ascL k) ∧ Below w.heap.size w wr)
  case atStart => exact ⟨0, none, 0, 0, rfl, Nat.zero_le _, rfl, rfl, Own.nil _ _ _, Below.refl _ _⟩
  case round =>
    obtain ⟨k, ao, m, cap, hg, hk, rfl, rfl, hown, hB⟩ := hrel
    replace hg := hide hg
    by_cases hlt : k < n
    · have hlt2 := hide hlt
      have j1 : (k : Int) + 1 ≤ (n : Int) := by omega
      have hal := ascL_len k
      replace hal := hide hal
      go_wp2_with (with_reducible refine wpList_append_rd _ rfl _ _ 40 rfl (V := I64) (fun _ => rfl) w.heap.size 3 (.int .i64 0) 8 Tryz.underlying40 infoInt rfl _ (ascL k) rfl ?_ _ [(k : Int) + 1] rfl ?_ ?_ ?_ ?_ ?_)
      case refine_1 => exact Own.alloc hown _
      case refine_2 => exact Rd.new [(k : Int) + 1] rfl rfl (Nat.le_refl _) (by decide) rfl
      case refine_3 => have := hal.out; simp; omega
      case refine_4 => have := hal.out; simp; omega
      case refine_5 => have := hB.size; simp; omega
      intro v2 w2 hown2 hg2 hv2
      have B2 := (Bel.al hB _).grown hg2 (Bel.al hB _).size (fun g hg => (hown.lt g hg).1)
      rw [← ascL_succ] at hown2
      obtain ⟨ao2, n2, cap2, rfl⟩ := Rd.shape hown2.rd
      clear hg2 hv2 hown hB
      go_wp2
      go_roundg (n - (k + 1))
      case measure => have := hg.out; have := hlt2.out; omega
      case rel => exact ⟨k + 1, ao2, n2, cap2, rfl, by have := hlt2.out; omega, rfl, by go_num, hown2, B2⟩
    · have hkn : k = n := by omega
      subst hkn
      go_wp2
      go_ret
      exact ⟨_, rfl, hown, hB⟩

set_option maxHeartbeats 4000000 in
set_option maxRecDepth 100000 in
theorem rsample_any (b n k : Nat) (s : St) (w : World) (h : StA 60 w b s) (hk1 : 1 ≤ k) (hk : k ≤ n) (hn : n ≤ 1000) :
    Calls Tryz.prog 30 #[.pointer (some ⟨b, 0, none⟩), .int .i64 (n : Int), .int .i64 (k : Int)] w (ListS 60 b (sampleS n k s) w) := by
  obtain ⟨R, hR⟩ : ∃ R, R = sampleL k 0 n (ascL n) s := ⟨_, rfl⟩
  have hS0 : sampleS n k s = ((R.1.1.take k, R.1.2), R.2) := by rw [hR]; rfl
  rw [hS0]
  clear hS0
  replace hR := hide hR.symm
  have hb := h.lt
  have ca := hide (fun X => rising_any n X hn)
  have cb := hide (fun i (st : St) X (hX : StA 60 X b st) (hi : i < n) => rbelow_any b (n - i) st X hX (by omega) (by omega))
  have hh := hide h
  have hkn := hide hk
  have hnn := hide hn
  have a1 : (1 : Int) ≤ (n : Int) := by omega
  have a2 : (n : Int) ≤ 1000 := by omega
  have a3 : (1 : Int) ≤ (k : Int) := by omega
  have a4 : (k : Int) ≤ (n : Int) := by omega
  have hk1' := hide hk1
  clear h hk hn hk1
  go_enter Tryz.func30, Tryz.ntmps30
  go_wp2_with fail
  refine (ca.out _).mono ?_
  rintro e w1 ⟨v, rfl, hown, hB⟩
  obtain ⟨g, cap, rfl, hgb, hgl⟩ := hown.form (by rw [ascL_len]; have := hk1'.out; have := hkn.out; omega)
  rw [ascL_len] at hown ⊢
  have hSI := hh.out.keep hB
  have hGI := Gb.ofBelow hB (some b)
  have hownI := hown
  clear hown hB ca hh hgl
  go_wp2
  go_loopg [9] k (fun gh t wr => ∃ (i : Nat) (L : List Int) (st : St), gh = k - i ∧ i ≤ k ∧ t = .int .i64 (i : Int) ∧ Own I64 wr w.heap.size 3 (.slice (some ⟨g, 0, none⟩) n cap) L ∧ StA 60 wr b st ∧ w.grownBy wr (some b) ∧ Hid (L.length = n) ∧ Hid (sampleL (k - i) i n L st = R))
  case atStart => exact ⟨0, ascL n, s, rfl, Nat.zero_le _, rfl, hownI, hSI, hGI, ascL_len n, hR⟩
  case round =>
    obtain ⟨i, L, st, hgh, hi, rfl, hown, hS, hG, hlen, hD⟩ := hrel
    replace hgh := hide hgh
    by_cases hlt : i < k
    · have hlt2 := hide hlt
      have hin : i < n := by have := hkn.out; omega
      have cc := cb.out i st wr hS hin
      rw [show ((n - i : Nat) : Int) = (n : Int) - (i : Int) by omega] at cc
      have hcode := belowS_code (n - i) st (by omega)
      obtain ⟨B, hB⟩ : ∃ B, B = belowS (n - i) st := ⟨_, rfl⟩
      have hD2 := hD.out
      rw [show k - i = (k - i - 1) + 1 by omega, sampleL, ← hB] at hD2
      rw [← hB] at hcode cc
      clear hB
      obtain ⟨⟨x, c⟩, st'⟩ := B
      simp only [] at hD2 hcode cc
      replace cc := hide cc
      have j1 : (0 : Int) ≤ (i : Int) := by omega
      have j2 : (i : Int) < (n : Int) := by omega
      by_cases hc : c = 0
      · subst hc
        have hx : i + x < n := by omega
        rw [if_neg (by simp)] at hD2
        replace hD2 := hide hD2
        clear hcode hD
        go_wp2_with fail
        refine cc.out.mono ?_
        rintro e w2 ⟨rfl, hS2, hG2⟩
        have hown2 := hown.grown hG2 (.inr (by simp [Value.ownBlock]; omega))
        have hG3 := Gb.to hG hG2
        obtain ⟨y1, hy1, d1⟩ : ∃ y, y = L[i]'(by have := hlen.out; omega) ∧ w2.cell? ⟨g, i, none⟩ = some (.int .i64 y) := ⟨_, rfl, hown2.cellAt _⟩
        obtain ⟨y2, hy2, d2⟩ : ∃ y, y = L[i + x]'(by have := hlen.out; omega) ∧ w2.cell? ⟨g, i + x, none⟩ = some (.int .i64 y) := ⟨_, rfl, hown2.cellAt _⟩
        have f1 := hown2.frozenAt i
        have f2 := hown2.frozenAt (i + x)
        obtain ⟨hownA, hgA⟩ := hown2.stored i y2
        obtain ⟨hownB, hgB⟩ := hownA.stored (i + x) y1
        have hsw : (L.set i y2).set (i + x) y1 = swapL L i (i + x) := by
          unfold swapL
          have := hlen.out
          rw [List.getElem?_eq_getElem (by omega), List.getElem?_eq_getElem (by omega), hy1, hy2]
          rfl
        rw [hsw] at hownB
        have hG4 := Gb.toOwn (Gb.toOwn hG3 hgA (fun k hk => by injection hk with hk; omega)) hgB (fun k hk => by injection hk with hk; omega)
        have hS4 := (hS2.row hgA (fun k hk => by injection hk with hk; omega)).row hgB (fun k hk => by injection hk with hk; omega)
        obtain ⟨v', hv'⟩ := cell?_setCell_some (w := w2) (p := ⟨g, i, none⟩) (x := .int .i64 y2) (q := ⟨g, i + x, none⟩) (v := .int .i64 y2) d2
        have k1 : (0 : Int) ≤ (i : Int) + (x : Int) := by omega
        have k2 : (i : Int) + (x : Int) < (n : Int) := by omega
        have kn : ((i : Int) + (x : Int)).toNat = i + x := by omega
        replace hy1 := hide hy1
        replace hy2 := hide hy2
        replace hownB := hide hownB
        replace hG4 := hide hG4
        replace hS4 := hide hS4
        clear hownA hgA hgB hown2 hS2 hG2 hG3 hsw hown hS hG
        go_wp2
        go_roundg (k - (i + 1))
        case measure => have := hgh.out; have := hlt2.out; omega
        case rel => exact ⟨i + 1, swapL L i (i + x), st', rfl, by have := hlt2.out; omega, by go_num, hownB.out, hS4.out, hG4.out, by have := hlen.out; show _ = _; rw [swapL_len]; exact this, hD2⟩
      · rw [if_pos hc] at hD2
        have hcn : (c != 0) = true := by simpa using hc
        subst hD2
        replace hc := hide hc
        clear hcode hD hR
        go_wp2_with fail
        refine cc.out.mono ?_
        rintro e w2 ⟨rfl, hS2, hG2⟩
        go_wp2
        go_ret2
        exact ⟨.slice none 0 0, rfl, by rw [List.take_nil]; exact Own.nil _ _ _, hS2, Gb.to hG hG2⟩
    · have hik : i = k := by omega
      have hD2 := hD.out
      rw [hik, Nat.sub_self, sampleL] at hD2
      subst hD2
      have hcl := hown.capLe
      rw [hlen.out] at hcl
      unfold maxLen at hcl
      obtain ⟨hc1, hc2⟩ := hcl
      have hck : ¬ cap < k := by have := hkn.out; omega
      have ht := hown.take (k := k) (by have := hlen.out; have := hkn.out; omega)
      replace hik := hide hik
      clear hD hR hown
      go_wp2
      go_ret2
      exact ⟨_, rfl, ht, hS, hG⟩
end Go.Proofs.YtokhhccokjfgjaaGreat
end

section
/- lotteryref14.Line: a quick pick of a game. No condition. -/
open Go.RowKit
set_option linter.unusedVariables false
set_option linter.unusedSimpArgs false
namespace Go.Proofs.YtokhhccokjfgjaaGreat

theorem rdigits_int (b : Nat) (n k : Int) (s : St) (w : World) (h : StA 60 w b s) (h1 : 1 ≤ n) (h2 : n ≤ 2147483648) (h3 : 0 ≤ k) (h4 : k ≤ 1000) :
    Calls Tryz.prog 29 #[.pointer (some ⟨b, 0, none⟩), .int .i64 n, .int .i64 k] w (ListS 60 b (drawL k.toNat n.toNat [] s) w) := by
  obtain ⟨n, rfl⟩ := Int.eq_ofNat_of_zero_le (show 0 ≤ n by omega)
  obtain ⟨k, rfl⟩ := Int.eq_ofNat_of_zero_le h3
  rw [Int.toNat_natCast, Int.toNat_natCast]
  exact rdigits_any b n k s w h (by omega) (by omega) (by omega)
theorem rsample_int (b : Nat) (n k : Int) (s : St) (w : World) (h : StA 60 w b s) (h1 : 1 ≤ k) (h2 : k ≤ n) (h4 : n ≤ 1000) :
    Calls Tryz.prog 30 #[.pointer (some ⟨b, 0, none⟩), .int .i64 n, .int .i64 k] w (ListS 60 b (sampleS n.toNat k.toNat s) w) := by
  obtain ⟨n, rfl⟩ := Int.eq_ofNat_of_zero_le (show 0 ≤ n by omega)
  obtain ⟨k, rfl⟩ := Int.eq_ofNat_of_zero_le (show 0 ≤ k by omega)
  rw [Int.toNat_natCast, Int.toNat_natCast]
  exact rsample_any b n k s w h (by omega) (by omega) (by omega)
theorem nil_ne : ∀ x, I64 x ≠ Value.slice none 0 0 := fun x h => by cases h
theorem LineAt.set0 {X : World} {b : Nat} {u v : Value} (h : LineAt X b u v) (p : Value) : LineAt (X.setCell ⟨b, 0, none⟩ p) b p v := Row.set h 0 p
theorem LineAt.set1 {X : World} {b : Nat} {u v : Value} (h : LineAt X b u v) (p : Value) : LineAt (X.setCell ⟨b, 1, none⟩ p) b u p := Row.set h 1 p
theorem Gb.cell {w X : World} {b L i : Nat} (h : w.grownBy X (some b)) (hL : w.heap.size ≤ L) (u : Value) : w.grownBy (X.setCell ⟨L, i, none⟩ u) (some b) := by
  have h1 := Gb.set (g := L) (Gb.refl X (some L)) (p := ⟨L, i, none⟩) (.inl rfl) u
  exact Gb.toOwn h h1 (fun k hk => by injection hk with hk; omega)

set_option maxHeartbeats 2000000 in
set_option maxRecDepth 100000 in
theorem rline_bad (g : GameD) (av tv : Value) (ms : List AddonM) (p : Option Addr) (w : World) (h : GameR w av tv ms g) (he : gameE g ≠ 0) :
    Calls Tryz.prog 15 #[gameVal g av tv, .pointer p] w (LineN (gameE g) w) := by
  have hc := hide (fun X (hX : GameR X av tv ms g) => rcheck_any g av tv ms X hX)
  have hh := hide h
  obtain ⟨aa, ac, rfl, hal, ham⟩ := h.1.1.shape
  obtain ⟨ta, tc, rfl, htl, htm⟩ := h.2.2.shape
  clear h
  obtain ⟨c, hcc⟩ : ∃ c, c = gameE g := ⟨_, rfl⟩
  rw [← hcc] at hc he ⊢
  clear hcc
  have hcb : (c != 0) = true := by simpa using he
  replace he := hide he
  unfold gameVal
  go_enter Tryz.func15, Tryz.ntmps15
  go_upto_region 1 with (fail)
  obtain ⟨W, hW⟩ : ∃ W, W = ((w.alloc (Obj.cells #[.string g.name, .int .i64 g.kind, .int .i64 g.price, .int .i64 g.main, .int .i64 g.of, .int .i64 g.bonus, .int .i64 g.bonusOf, .int .i64 g.extra, .int .i64 g.draws, .int .i64 g.system, .int .i64 g.days, .int .i64 g.at_, .int .i64 g.close, .int .i64 g.cancel, .int .i64 g.expiry, .int .i64 g.pool, .int .i64 g.reserve, .int .i64 g.round, .int .i64 g.cap, .int .i64 g.rolls, (.slice aa ms.length ac), (.slice ta g.tiers.length tc)] 25)).alloc (Obj.cells #[(.slice none 0 0), (.slice none 0 0)] 42)) := ⟨_, rfl⟩
  have bW : Below w.heap.size w W := by rw [hW]; exact Bel.al (Bel.al (Below.refl _ _) _) _
  have r0 : GameAt W (w.heap.size) g ((.slice aa ms.length ac)) ((.slice ta g.tiers.length tc)) := by rw [hW]; exact Row.alloc (Row.new _ _ _) _
  have r1 : LineAt W (w.heap.size + 1) ((.slice none 0 0)) ((.slice none 0 0)) := by rw [hW]; exact Row.at2 _ _ _ _
  have sW : w.heap.size + 1 < W.heap.size := by rw [hW]; simp
  rw [← hW]
  clear hW
  go_wp2_with (first | (refine wpList_load_row rfl 25 _ rfl _ rfl _ _ _ _ r0 Tryz.underlying25 rfl (by kernel_rfl) ?_) | fail)
  refine (hc.out _ (hh.out.below bW)).mono ?_
  rintro e w1 ⟨sv, rfl, hb1⟩
  have B1 := Bel.to bW hb1
  have r0 := r0.keep hb1
  have r1 := r1.keep hb1
  have z1 : w.heap.size + 1 < w1.heap.size := by have := hb1.size; omega
  clear hb1
  have x0 := LineAt.main r1
  have x1 := LineAt.bonus r1
  have x2 := Row.frozen r1 0
  have x3 := Row.frozen r1 1
  have rL : LineAt ((w1.setCell ⟨w.heap.size + 1, 0, none⟩ (.slice none 0 0)).setCell ⟨w.heap.size + 1, 1, none⟩ (.slice none 0 0)) (w.heap.size + 1) (.slice none 0 0) (.slice none 0 0) := LineAt.store r1 _ _
  have y0 := hide rL.main
  have y1 := hide rL.bonus
  have B9 := Bel.st (Bel.st B1 (p := ⟨w.heap.size + 1, 0, none⟩) (by simp) (.slice none 0 0)) (p := ⟨w.heap.size + 1, 1, none⟩) (by simp) (.slice none 0 0)
  clear rL
  go_wp2
  exact bodyPost_ret (v := .tuple #[.agg #[.slice none 0 0, .slice none 0 0], .int .i64 c]) (by simp [results, Tryz.results15, go_sem, y0.out, y1.out]) rfl ⟨rfl, B9⟩

set_option maxHeartbeats 8000000 in
set_option maxRecDepth 100000 in
theorem rline_digits (g : GameD) (av tv : Value) (ms : List AddonM) (b : Nat) (s : St) (w : World) (h : GameR w av tv ms g) (hs : StA 60 w b s) (he : gameE g = 0) (hk : g.kind = 2) :
    Calls Tryz.prog 15 #[gameVal g av tv, .pointer (some ⟨b, 0, none⟩)] w (LineS 60 b (lineQ g s) w) := by
  have hc := hide (fun X (hX : GameR X av tv ms g) => rcheck_any g av tv ms X hX)
  rw [he] at hc
  obtain ⟨f1, f2, f3, f4, f5, f6, f7, f8, f9, f10, f11⟩ := mat_facts (game_mat he)
  have hb := hs.lt
  have hh := hide h
  obtain ⟨aa, ac, rfl, hal, ham⟩ := h.1.1.shape
  obtain ⟨ta, tc, rfl, htl, htm⟩ := h.2.2.shape
  clear h
  have hq : lineQ g s = ((((drawL g.main.toNat g.of.toNat [] s).1.1, []), (drawL g.main.toNat g.of.toNat [] s).1.2), (drawL g.main.toNat g.of.toNat [] s).2) := by unfold lineQ; rw [if_pos hk]
  rw [hq]
  obtain ⟨e1, e2⟩ := f7 hk
  have cc := hide (fun X (hX : StA 60 X b s) => rdigits_int b g.of g.main s X hX (by omega) (by omega) (by omega) (by omega))
  obtain ⟨R, hR⟩ : ∃ R, R = drawL g.main.toNat g.of.toNat [] s := ⟨_, rfl⟩
  rw [← hR] at cc ⊢
  obtain ⟨⟨l, c⟩, st⟩ := R
  have hs := hide hs
  have hkb : (g.kind == 2) = true := by simpa using hk
  replace hk := hide hk
  replace he := hide he
  clear hq hR f1 f2 f3 f4 f5 f6 f7 f8 f9 f10 f11 e1 e2
  simp only []
  unfold gameVal
  go_enter Tryz.func15, Tryz.ntmps15
  go_upto_region 1 with (fail)
  obtain ⟨W, hW⟩ : ∃ W, W = ((w.alloc (Obj.cells #[.string g.name, .int .i64 g.kind, .int .i64 g.price, .int .i64 g.main, .int .i64 g.of, .int .i64 g.bonus, .int .i64 g.bonusOf, .int .i64 g.extra, .int .i64 g.draws, .int .i64 g.system, .int .i64 g.days, .int .i64 g.at_, .int .i64 g.close, .int .i64 g.cancel, .int .i64 g.expiry, .int .i64 g.pool, .int .i64 g.reserve, .int .i64 g.round, .int .i64 g.cap, .int .i64 g.rolls, (.slice aa ms.length ac), (.slice ta g.tiers.length tc)] 25)).alloc (Obj.cells #[(.slice none 0 0), (.slice none 0 0)] 42)) := ⟨_, rfl⟩
  have bW : Below w.heap.size w W := by rw [hW]; exact Bel.al (Bel.al (Below.refl _ _) _) _
  have r0 : GameAt W (w.heap.size) g ((.slice aa ms.length ac)) ((.slice ta g.tiers.length tc)) := by rw [hW]; exact Row.alloc (Row.new _ _ _) _
  have r1 : LineAt W (w.heap.size + 1) ((.slice none 0 0)) ((.slice none 0 0)) := by rw [hW]; exact Row.at2 _ _ _ _
  have sW : w.heap.size + 1 < W.heap.size := by rw [hW]; simp
  rw [← hW]
  clear hW
  go_wp2_with (first | (refine wpList_load_row rfl 25 _ rfl _ rfl _ _ _ _ r0 Tryz.underlying25 rfl (by kernel_rfl) ?_) | fail)
  refine (hc.out _ (hh.out.below bW)).mono ?_
  rintro e w1 ⟨sv, rfl, hb1⟩
  have B1 := Bel.to bW hb1
  have r0 := r0.keep hb1
  have r1 := r1.keep hb1
  have hS := hs.out.keep B1
  have hG := Gb.ofBelow B1 (some b)
  clear hb1 bW sW hh hc hs
  have d1 := r0.kind
  have d3 := r0.main
  have d4 := r0.of
  have z1 : w.heap.size + 1 < w1.heap.size := r1.lt
  go_wp2_with fail
  refine (cc.out _ hS).mono ?_
  rintro e w2 ⟨v, rfl, hown, hS2, hG2⟩
  simp only [] at hown hS2
  have hfr := hide (hown.fr.mono hG.size)
  have hrd := hown.rd
  have r1 : LineAt w2 (w.heap.size + 1) (.slice none 0 0) (.slice none 0 0) := Row.grown r1 hG2 (by intro e; injection e with e; omega)
  replace hS := hS2
  replace hG := Gb.to hG hG2
  clear hown hS2 hG2 d1 d3 d4 r0
  obtain ⟨a1, n1, k1, rfl⟩ := Rd.shape hrd
  obtain ⟨hat, hlr, hlg⟩ := line_stored r1 hrd Rd.nil
  have x0 := LineAt.main r1
  have x1 := LineAt.bonus r1
  have x2 := Row.frozen r1 0
  have x3 := Row.frozen r1 1
  have y0 := hide hat.main
  have y1 := hide hat.bonus
  have hS9 := hide (hS.line (L := w.heap.size + 1) (by omega) (.slice a1 n1 k1) (.slice none 0 0))
  have hG9 := hide (Gb.toOwn hG hlg (fun k hk => by injection hk with hk; omega))
  replace hlr := hide hlr
  clear hat hlg hS hG
  go_wp2
  exact bodyPost_ret (v := .tuple #[.agg #[.slice a1 n1 k1, .slice none 0 0], .int .i64 c]) (by simp [results, Tryz.results15, go_sem, y0.out, y1.out]) rfl ⟨_, _, rfl, hlr.out, hfr.out, Fr.nil, hS9.out, hG9.out⟩

set_option maxHeartbeats 8000000 in
set_option maxRecDepth 100000 in
theorem rline_choose (g : GameD) (av tv : Value) (ms : List AddonM) (b : Nat) (s : St) (w : World) (h : GameR w av tv ms g) (hs : StA 60 w b s) (he : gameE g = 0) (hk : g.kind ≠ 2) :
    Calls Tryz.prog 15 #[gameVal g av tv, .pointer (some ⟨b, 0, none⟩)] w (LineS 60 b (lineQ g s) w) := by
  have hc := hide (fun X (hX : GameR X av tv ms g) => rcheck_any g av tv ms X hX)
  rw [he] at hc
  obtain ⟨f1, f2, f3, f4, f5, f6, f7, f8, f9, f10, f11⟩ := mat_facts (game_mat he)
  have hb := hs.lt
  have hh := hide h
  obtain ⟨aa, ac, rfl, hal, ham⟩ := h.1.1.shape
  obtain ⟨ta, tc, rfl, htl, htm⟩ := h.2.2.shape
  clear h
  have hq : lineQ g s = (if (sampleS g.of.toNat g.main.toNat s).1.2 ≠ 0 then ((([], []), (sampleS g.of.toNat g.main.toNat s).1.2), (sampleS g.of.toNat g.main.toNat s).2)
    else if g.bonus = 0 then (((sortI (sampleS g.of.toNat g.main.toNat s).1.1, []), 0), (sampleS g.of.toNat g.main.toNat s).2)
    else if (sampleS g.bonusOf.toNat g.bonus.toNat (sampleS g.of.toNat g.main.toNat s).2).1.2 ≠ 0 then ((([], []), (sampleS g.bonusOf.toNat g.bonus.toNat (sampleS g.of.toNat g.main.toNat s).2).1.2), (sampleS g.bonusOf.toNat g.bonus.toNat (sampleS g.of.toNat g.main.toNat s).2).2)
    else (((sortI (sampleS g.of.toNat g.main.toNat s).1.1, sortI (sampleS g.bonusOf.toNat g.bonus.toNat (sampleS g.of.toNat g.main.toNat s).2).1.1), 0), (sampleS g.bonusOf.toNat g.bonus.toNat (sampleS g.of.toNat g.main.toNat s).2).2)) := by unfold lineQ; rw [if_neg hk]
  rw [hq]
  have e1 := f8 hk
  have cc := hide (fun X (hX : StA 60 X b s) => rsample_int b g.of g.main s X hX (by omega) (by omega) (by omega))
  have hfc := sampleS_facts (n := g.of.toNat) (k := g.main.toNat) (s := s) (by omega)
  obtain ⟨R, hR⟩ : ∃ R, R = sampleS g.of.toNat g.main.toNat s := ⟨_, rfl⟩
  rw [← hR] at cc hfc ⊢
  obtain ⟨⟨l, c⟩, st⟩ := R
  have c2 : g.bonus ≠ 0 → ∀ X (hX : StA 60 X b st), Calls Tryz.prog 30 #[.pointer (some ⟨b, 0, none⟩), .int .i64 g.bonusOf, .int .i64 g.bonus] X (ListS 60 b (sampleS g.bonusOf.toNat g.bonus.toNat st) X) := fun hb X hX => rsample_int b g.bonusOf g.bonus st X hX (by omega) (by omega) (by omega)
  have hfb := sampleS_facts (n := g.bonusOf.toNat) (k := g.bonus.toNat) (s := st) (by omega)
  simp only [] at hfc ⊢
  have hl3 : c = 0 → l.length ≤ 1000 := fun h => by have := (hfc h).1; omega
  have hl4 : (sampleS g.bonusOf.toNat g.bonus.toNat st).1.2 = 0 → (sampleS g.bonusOf.toNat g.bonus.toNat st).1.1.length ≤ 1000 := fun h => by have := (hfb h).1; omega
  have hs := hide hs
  have hkb : (g.kind == 2) = false := by simpa using hk
  replace hk := hide hk
  replace he := hide he
  replace c2 := hide c2
  replace hl3 := hide hl3
  replace hl4 := hide hl4
  clear hq hR hfc hfb f1 f2 f3 f4 f5 f6 f7 f8 f9 f10 f11 e1
  by_cases hc0 : c = 0
  · subst hc0
    rw [if_neg (by simp)]
    by_cases hb0 : g.bonus = 0
    · rw [if_pos hb0]
      have hbb : (g.bonus != 0) = false := by simpa using hb0
      replace hb0 := hide hb0
      clear c2 hl4
      unfold gameVal
      go_enter Tryz.func15, Tryz.ntmps15
      go_upto_region 1 with (fail)
      obtain ⟨W, hW⟩ : ∃ W, W = ((w.alloc (Obj.cells #[.string g.name, .int .i64 g.kind, .int .i64 g.price, .int .i64 g.main, .int .i64 g.of, .int .i64 g.bonus, .int .i64 g.bonusOf, .int .i64 g.extra, .int .i64 g.draws, .int .i64 g.system, .int .i64 g.days, .int .i64 g.at_, .int .i64 g.close, .int .i64 g.cancel, .int .i64 g.expiry, .int .i64 g.pool, .int .i64 g.reserve, .int .i64 g.round, .int .i64 g.cap, .int .i64 g.rolls, (.slice aa ms.length ac), (.slice ta g.tiers.length tc)] 25)).alloc (Obj.cells #[(.slice none 0 0), (.slice none 0 0)] 42)) := ⟨_, rfl⟩
      have bW : Below w.heap.size w W := by rw [hW]; exact Bel.al (Bel.al (Below.refl _ _) _) _
      have r0 : GameAt W (w.heap.size) g ((.slice aa ms.length ac)) ((.slice ta g.tiers.length tc)) := by rw [hW]; exact Row.alloc (Row.new _ _ _) _
      have r1 : LineAt W (w.heap.size + 1) ((.slice none 0 0)) ((.slice none 0 0)) := by rw [hW]; exact Row.at2 _ _ _ _
      have sW : w.heap.size + 1 < W.heap.size := by rw [hW]; simp
      rw [← hW]
      clear hW
      go_wp2_with (first | (refine wpList_load_row rfl 25 _ rfl _ rfl _ _ _ _ r0 Tryz.underlying25 rfl (by kernel_rfl) ?_) | fail)
      refine (hc.out _ (hh.out.below bW)).mono ?_
      rintro e w1 ⟨sv, rfl, hb1⟩
      have B1 := Bel.to bW hb1
      have r0 := r0.keep hb1
      have r1 := r1.keep hb1
      have hS := hs.out.keep B1
      have hG := Gb.ofBelow B1 (some b)
      clear hb1 bW sW hh hc hs
      have d1 := r0.kind
      have d3 := r0.main
      have d4 := r0.of
      have z1 : w.heap.size + 1 < w1.heap.size := r1.lt
      go_upto_region 10 with (fail)
      obtain ⟨W2, hW2⟩ : ∃ W2, W2 = w1.alloc (Obj.cells #[.slice none 0 0, .slice none 0 0] 42) := ⟨_, rfl⟩
      have b2 : Below w1.heap.size w1 W2 := by rw [hW2]; exact Bel.al (Below.refl _ _) _
      obtain ⟨xb, hxb⟩ : ∃ xb, xb = w1.heap.size := ⟨_, rfl⟩
      have rX : LineAt W2 xb (.slice none 0 0) (.slice none 0 0) := by rw [hW2, hxb]; exact Row.new _ _ _
      have sX : xb < W2.heap.size := rX.lt
      rw [← hW2]
      rw [← hxb] at z1 ⊢
      clear hW2 hxb
      replace hS := hS.keep b2
      replace hG := Gb.thenBelow hG b2
      replace r0 := r0.keep b2
      replace r1 := r1.keep b2
      have d3 := r0.main
      have d4 := r0.of
      have d5 := r0.bonus
      clear b2 d1
      go_wp2_with fail
      refine (cc.out _ hS).mono ?_
      rintro e w3 ⟨u, rfl, hown, hS3, hG3⟩
      simp only [] at hown hS3
      have hrd := hown.rd
      have hGa := Gb.to hG hG3
      have rX3 : LineAt w3 xb (.slice none 0 0) (.slice none 0 0) := Row.grown rX hG3 (by intro e; injection e with e; omega)
      have r03 : GameAt w3 w.heap.size g (.slice aa ms.length ac) (.slice ta g.tiers.length tc) := Row.grown r0 hG3 (by intro e; injection e with e; omega)
      have r13 : LineAt w3 (w.heap.size + 1) (.slice none 0 0) (.slice none 0 0) := Row.grown r1 hG3 (by intro e; injection e with e; omega)
      obtain ⟨u1, u2, u3, rfl⟩ := Rd.shape hrd
      have q0 := rX3.main
      have q1 := Row.frozen rX3 0
      have hulr := hide (hrd.setNe q0 nil_ne (.slice u1 u2 u3))
      have hlt1 := hide hown.lt
      have hownF := hide (hown.far (p := ⟨xb, 0, none⟩) (by intro e; have := (hown.lt _ e).1; simp only [] at this; omega) (.slice u1 u2 u3))
      have zS : W2.heap.size ≤ w3.heap.size := hG3.size
      clear rX r0 r1 hS hG hG3 d3 d4 hrd
      go_upto_region 11 with (fail)
      obtain ⟨W4, hW4⟩ : ∃ W4, W4 = w3.setCell ⟨xb, 0, none⟩ (.slice u1 u2 u3) := ⟨_, rfl⟩
      have rX4 : LineAt W4 xb (.slice u1 u2 u3) (.slice none 0 0) := by rw [hW4]; exact rX3.set0 _
      have r0 : GameAt W4 w.heap.size g (.slice aa ms.length ac) (.slice ta g.tiers.length tc) := by rw [hW4]; exact Row.far r03 (by simp only []; omega) _
      have r1 : LineAt W4 (w.heap.size + 1) (.slice none 0 0) (.slice none 0 0) := by rw [hW4]; exact Row.far r13 (by simp only []; omega) _
      have hS : StA 60 W4 b st := by rw [hW4]; exact Row.far hS3 (by simp only []; omega) _
      have hG : w.grownBy W4 (some b) := by rw [hW4]; exact Gb.cell hGa (by omega) _
      have hu4 : Rd I64 W4 (.slice u1 u2 u3) l := by rw [hW4]; exact hulr.out
      have hown4 : Own I64 W4 W2.heap.size 3 (.slice u1 u2 u3) l := by rw [hW4]; exact hownF.out
      have zS4 : W2.heap.size ≤ W4.heap.size := by rw [hW4]; simpa [World.setCell] using zS
      have d5 := r0.bonus
      have d6 := r0.bonusOf
      rw [← hW4]
      clear hW4 rX3 r03 r13 hS3 hGa q0 q1 hulr hownF zS hown
      have cC := hide (rcanon_fr _ _ l [] W4 ⟨hu4, Rd.nil⟩ (hl3.out trivial) (by simp))
      unfold lineVal at cC
      have q2 := rX4.main
      have q3 := rX4.bonus
      go_wp2_with fail
      refine cC.out.mono ?_
      rintro e w7 ⟨p, q, rfl, hlc, fp, fq, hb7⟩
      replace hS := hS.keep hb7
      have hGs := hG.size
      replace hG := Gb.thenBelow hG hb7
      replace r1 := r1.keep hb7
      have fp2 := hide (fp.mono hGs)
      have fq2 := hide (fq.mono hGs)
      obtain ⟨p1, p2, p3, rfl⟩ := Rd.shape hlc.1
      obtain ⟨q1, q2', q3', rfl⟩ := Rd.shape hlc.2
      clear fp fq hb7 cC q2 q3
      unfold lineVal
      rw [sortI_nil] at hlc fq2
      clear rX4 r0 hu4 hown4 d5 d6
      obtain ⟨hat, hlr, hlg⟩ := line_stored r1 hlc.1 hlc.2
      have x0 := LineAt.main r1
      have x1 := LineAt.bonus r1
      have x2 := Row.frozen r1 0
      have x3 := Row.frozen r1 1
      have y0 := hide hat.main
      have y1 := hide hat.bonus
      have hS9 := hide (hS.line (L := w.heap.size + 1) (by omega) (.slice p1 p2 p3) (.slice q1 q2' q3'))
      have hG9 := hide (Gb.toOwn hG hlg (fun k hk => by injection hk with hk; omega))
      replace hlr := hide hlr
      clear hat hlg hS hG
      go_wp2
      exact bodyPost_ret (v := .tuple #[.agg #[.slice p1 p2 p3, .slice q1 q2' q3'], .int .i64 0]) (by simp [results, Tryz.results15, go_sem, y0.out, y1.out]) rfl ⟨_, _, rfl, hlr.out, fp2.out, fq2.out, hS9.out, hG9.out⟩

    · rw [if_neg hb0]
      have hbb : (g.bonus != 0) = true := by simpa using hb0
      replace hb0 := hide hb0
      obtain ⟨T, hT⟩ : ∃ T, T = sampleS g.bonusOf.toNat g.bonus.toNat st := ⟨_, rfl⟩
      rw [← hT] at c2 hl4 ⊢
      clear hT
      obtain ⟨⟨l2, cB⟩, st2⟩ := T
      simp only [] at c2 hl4 ⊢
      by_cases hcB : cB = 0
      · subst hcB
        rw [if_neg (by simp)]
        have hl5 := hide (hl4.out rfl)
        unfold gameVal
        go_enter Tryz.func15, Tryz.ntmps15
        go_upto_region 1 with (fail)
        obtain ⟨W, hW⟩ : ∃ W, W = ((w.alloc (Obj.cells #[.string g.name, .int .i64 g.kind, .int .i64 g.price, .int .i64 g.main, .int .i64 g.of, .int .i64 g.bonus, .int .i64 g.bonusOf, .int .i64 g.extra, .int .i64 g.draws, .int .i64 g.system, .int .i64 g.days, .int .i64 g.at_, .int .i64 g.close, .int .i64 g.cancel, .int .i64 g.expiry, .int .i64 g.pool, .int .i64 g.reserve, .int .i64 g.round, .int .i64 g.cap, .int .i64 g.rolls, (.slice aa ms.length ac), (.slice ta g.tiers.length tc)] 25)).alloc (Obj.cells #[(.slice none 0 0), (.slice none 0 0)] 42)) := ⟨_, rfl⟩
        have bW : Below w.heap.size w W := by rw [hW]; exact Bel.al (Bel.al (Below.refl _ _) _) _
        have r0 : GameAt W (w.heap.size) g ((.slice aa ms.length ac)) ((.slice ta g.tiers.length tc)) := by rw [hW]; exact Row.alloc (Row.new _ _ _) _
        have r1 : LineAt W (w.heap.size + 1) ((.slice none 0 0)) ((.slice none 0 0)) := by rw [hW]; exact Row.at2 _ _ _ _
        have sW : w.heap.size + 1 < W.heap.size := by rw [hW]; simp
        rw [← hW]
        clear hW
        go_wp2_with (first | (refine wpList_load_row rfl 25 _ rfl _ rfl _ _ _ _ r0 Tryz.underlying25 rfl (by kernel_rfl) ?_) | fail)
        refine (hc.out _ (hh.out.below bW)).mono ?_
        rintro e w1 ⟨sv, rfl, hb1⟩
        have B1 := Bel.to bW hb1
        have r0 := r0.keep hb1
        have r1 := r1.keep hb1
        have hS := hs.out.keep B1
        have hG := Gb.ofBelow B1 (some b)
        clear hb1 bW sW hh hc hs
        have d1 := r0.kind
        have d3 := r0.main
        have d4 := r0.of
        have z1 : w.heap.size + 1 < w1.heap.size := r1.lt
        go_upto_region 10 with (fail)
        obtain ⟨W2, hW2⟩ : ∃ W2, W2 = w1.alloc (Obj.cells #[.slice none 0 0, .slice none 0 0] 42) := ⟨_, rfl⟩
        have b2 : Below w1.heap.size w1 W2 := by rw [hW2]; exact Bel.al (Below.refl _ _) _
        obtain ⟨xb, hxb⟩ : ∃ xb, xb = w1.heap.size := ⟨_, rfl⟩
        have rX : LineAt W2 xb (.slice none 0 0) (.slice none 0 0) := by rw [hW2, hxb]; exact Row.new _ _ _
        have sX : xb < W2.heap.size := rX.lt
        rw [← hW2]
        rw [← hxb] at z1 ⊢
        clear hW2 hxb
        replace hS := hS.keep b2
        replace hG := Gb.thenBelow hG b2
        replace r0 := r0.keep b2
        replace r1 := r1.keep b2
        have d3 := r0.main
        have d4 := r0.of
        have d5 := r0.bonus
        clear b2 d1
        go_wp2_with fail
        refine (cc.out _ hS).mono ?_
        rintro e w3 ⟨u, rfl, hown, hS3, hG3⟩
        simp only [] at hown hS3
        have hrd := hown.rd
        have hGa := Gb.to hG hG3
        have rX3 : LineAt w3 xb (.slice none 0 0) (.slice none 0 0) := Row.grown rX hG3 (by intro e; injection e with e; omega)
        have r03 : GameAt w3 w.heap.size g (.slice aa ms.length ac) (.slice ta g.tiers.length tc) := Row.grown r0 hG3 (by intro e; injection e with e; omega)
        have r13 : LineAt w3 (w.heap.size + 1) (.slice none 0 0) (.slice none 0 0) := Row.grown r1 hG3 (by intro e; injection e with e; omega)
        obtain ⟨u1, u2, u3, rfl⟩ := Rd.shape hrd
        have q0 := rX3.main
        have q1 := Row.frozen rX3 0
        have hulr := hide (hrd.setNe q0 nil_ne (.slice u1 u2 u3))
        have hlt1 := hide hown.lt
        have hownF := hide (hown.far (p := ⟨xb, 0, none⟩) (by intro e; have := (hown.lt _ e).1; simp only [] at this; omega) (.slice u1 u2 u3))
        have zS : W2.heap.size ≤ w3.heap.size := hG3.size
        clear rX r0 r1 hS hG hG3 d3 d4 hrd
        go_upto_region 11 with (fail)
        obtain ⟨W4, hW4⟩ : ∃ W4, W4 = w3.setCell ⟨xb, 0, none⟩ (.slice u1 u2 u3) := ⟨_, rfl⟩
        have rX4 : LineAt W4 xb (.slice u1 u2 u3) (.slice none 0 0) := by rw [hW4]; exact rX3.set0 _
        have r0 : GameAt W4 w.heap.size g (.slice aa ms.length ac) (.slice ta g.tiers.length tc) := by rw [hW4]; exact Row.far r03 (by simp only []; omega) _
        have r1 : LineAt W4 (w.heap.size + 1) (.slice none 0 0) (.slice none 0 0) := by rw [hW4]; exact Row.far r13 (by simp only []; omega) _
        have hS : StA 60 W4 b st := by rw [hW4]; exact Row.far hS3 (by simp only []; omega) _
        have hG : w.grownBy W4 (some b) := by rw [hW4]; exact Gb.cell hGa (by omega) _
        have hu4 : Rd I64 W4 (.slice u1 u2 u3) l := by rw [hW4]; exact hulr.out
        have hown4 : Own I64 W4 W2.heap.size 3 (.slice u1 u2 u3) l := by rw [hW4]; exact hownF.out
        have zS4 : W2.heap.size ≤ W4.heap.size := by rw [hW4]; simpa [World.setCell] using zS
        have d5 := r0.bonus
        have d6 := r0.bonusOf
        rw [← hW4]
        clear hW4 rX3 r03 r13 hS3 hGa q0 q1 hulr hownF zS hown
        go_wp2_with fail
        refine (c2.out hb0.out _ hS).mono ?_
        rintro e w5 ⟨v, rfl, hown2, hS5, hG5⟩
        simp only [] at hown2 hS5
        have hrd2 := hown2.rd
        have hGb := Gb.to hG hG5
        have hu5 := (hown4.grown hG5 (by cases hv : (Value.slice u1 u2 u3).ownBlock with | none => exact .inl rfl | some k => exact .inr (fun e => by injection e with e; have := (hlt1.out k hv).1; omega))).rd
        have rX5 : LineAt w5 xb (.slice u1 u2 u3) (.slice none 0 0) := Row.grown rX4 hG5 (by intro e; injection e with e; omega)
        have r15 : LineAt w5 (w.heap.size + 1) (.slice none 0 0) (.slice none 0 0) := Row.grown r1 hG5 (by intro e; injection e with e; omega)
        obtain ⟨v1, v2, v3, rfl⟩ := Rd.shape hrd2
        have q0 := rX5.bonus
        have q1 := Row.frozen rX5 1
        have hu5s := hide (hu5.setNe q0 nil_ne (.slice v1 v2 v3))
        have hv5s := hide (hrd2.setNe q0 nil_ne (.slice v1 v2 v3))
        clear r0 r1 hS hG hG5 d5 d6 hu4 hown4 hown2 rX4
        go_upto_region 13 with (fail)
        obtain ⟨W6, hW6⟩ : ∃ W6, W6 = w5.setCell ⟨xb, 1, none⟩ (.slice v1 v2 v3) := ⟨_, rfl⟩
        have rX6 : LineAt W6 xb (.slice u1 u2 u3) (.slice v1 v2 v3) := by rw [hW6]; exact rX5.set1 _
        have r1 : LineAt W6 (w.heap.size + 1) (.slice none 0 0) (.slice none 0 0) := by rw [hW6]; exact Row.far r15 (by simp only []; omega) _
        have hS : StA 60 W6 b st2 := by rw [hW6]; exact Row.far hS5 (by simp only []; omega) _
        have hG : w.grownBy W6 (some b) := by rw [hW6]; exact Gb.cell hGb (by omega) _
        have hu6 : Rd I64 W6 (.slice u1 u2 u3) l := by rw [hW6]; exact hu5s.out
        have hv6 : Rd I64 W6 (.slice v1 v2 v3) l2 := by rw [hW6]; exact hv5s.out
        rw [← hW6]
        clear hW6 rX5 r15 hS5 hGb q0 q1 hu5s hv5s hu5 hrd2
        have cC := hide (rcanon_fr _ _ l l2 W6 ⟨hu6, hv6⟩ (hl3.out trivial) hl5.out)
        unfold lineVal at cC
        have q2 := rX6.main
        have q3 := rX6.bonus
        go_wp2_with fail
        refine cC.out.mono ?_
        rintro e w7 ⟨p, q, rfl, hlc, fp, fq, hb7⟩
        replace hS := hS.keep hb7
        have hGs := hG.size
        replace hG := Gb.thenBelow hG hb7
        replace r1 := r1.keep hb7
        have fp2 := hide (fp.mono hGs)
        have fq2 := hide (fq.mono hGs)
        obtain ⟨p1, p2, p3, rfl⟩ := Rd.shape hlc.1
        obtain ⟨q1, q2', q3', rfl⟩ := Rd.shape hlc.2
        clear fp fq hb7 cC q2 q3
        unfold lineVal
        clear rX6 hu6 hv6
        obtain ⟨hat, hlr, hlg⟩ := line_stored r1 hlc.1 hlc.2
        have x0 := LineAt.main r1
        have x1 := LineAt.bonus r1
        have x2 := Row.frozen r1 0
        have x3 := Row.frozen r1 1
        have y0 := hide hat.main
        have y1 := hide hat.bonus
        have hS9 := hide (hS.line (L := w.heap.size + 1) (by omega) (.slice p1 p2 p3) (.slice q1 q2' q3'))
        have hG9 := hide (Gb.toOwn hG hlg (fun k hk => by injection hk with hk; omega))
        replace hlr := hide hlr
        clear hat hlg hS hG
        go_wp2
        exact bodyPost_ret (v := .tuple #[.agg #[.slice p1 p2 p3, .slice q1 q2' q3'], .int .i64 0]) (by simp [results, Tryz.results15, go_sem, y0.out, y1.out]) rfl ⟨_, _, rfl, hlr.out, fp2.out, fq2.out, hS9.out, hG9.out⟩

      · rw [if_pos hcB]
        have hcn : (cB != 0) = true := by simpa using hcB
        replace hcB := hide hcB
        unfold gameVal
        go_enter Tryz.func15, Tryz.ntmps15
        go_upto_region 1 with (fail)
        obtain ⟨W, hW⟩ : ∃ W, W = ((w.alloc (Obj.cells #[.string g.name, .int .i64 g.kind, .int .i64 g.price, .int .i64 g.main, .int .i64 g.of, .int .i64 g.bonus, .int .i64 g.bonusOf, .int .i64 g.extra, .int .i64 g.draws, .int .i64 g.system, .int .i64 g.days, .int .i64 g.at_, .int .i64 g.close, .int .i64 g.cancel, .int .i64 g.expiry, .int .i64 g.pool, .int .i64 g.reserve, .int .i64 g.round, .int .i64 g.cap, .int .i64 g.rolls, (.slice aa ms.length ac), (.slice ta g.tiers.length tc)] 25)).alloc (Obj.cells #[(.slice none 0 0), (.slice none 0 0)] 42)) := ⟨_, rfl⟩
        have bW : Below w.heap.size w W := by rw [hW]; exact Bel.al (Bel.al (Below.refl _ _) _) _
        have r0 : GameAt W (w.heap.size) g ((.slice aa ms.length ac)) ((.slice ta g.tiers.length tc)) := by rw [hW]; exact Row.alloc (Row.new _ _ _) _
        have r1 : LineAt W (w.heap.size + 1) ((.slice none 0 0)) ((.slice none 0 0)) := by rw [hW]; exact Row.at2 _ _ _ _
        have sW : w.heap.size + 1 < W.heap.size := by rw [hW]; simp
        rw [← hW]
        clear hW
        go_wp2_with (first | (refine wpList_load_row rfl 25 _ rfl _ rfl _ _ _ _ r0 Tryz.underlying25 rfl (by kernel_rfl) ?_) | fail)
        refine (hc.out _ (hh.out.below bW)).mono ?_
        rintro e w1 ⟨sv, rfl, hb1⟩
        have B1 := Bel.to bW hb1
        have r0 := r0.keep hb1
        have r1 := r1.keep hb1
        have hS := hs.out.keep B1
        have hG := Gb.ofBelow B1 (some b)
        clear hb1 bW sW hh hc hs
        have d1 := r0.kind
        have d3 := r0.main
        have d4 := r0.of
        have z1 : w.heap.size + 1 < w1.heap.size := r1.lt
        go_upto_region 10 with (fail)
        obtain ⟨W2, hW2⟩ : ∃ W2, W2 = w1.alloc (Obj.cells #[.slice none 0 0, .slice none 0 0] 42) := ⟨_, rfl⟩
        have b2 : Below w1.heap.size w1 W2 := by rw [hW2]; exact Bel.al (Below.refl _ _) _
        obtain ⟨xb, hxb⟩ : ∃ xb, xb = w1.heap.size := ⟨_, rfl⟩
        have rX : LineAt W2 xb (.slice none 0 0) (.slice none 0 0) := by rw [hW2, hxb]; exact Row.new _ _ _
        have sX : xb < W2.heap.size := rX.lt
        rw [← hW2]
        rw [← hxb] at z1 ⊢
        clear hW2 hxb
        replace hS := hS.keep b2
        replace hG := Gb.thenBelow hG b2
        replace r0 := r0.keep b2
        replace r1 := r1.keep b2
        have d3 := r0.main
        have d4 := r0.of
        have d5 := r0.bonus
        clear b2 d1
        go_wp2_with fail
        refine (cc.out _ hS).mono ?_
        rintro e w3 ⟨u, rfl, hown, hS3, hG3⟩
        simp only [] at hown hS3
        have hrd := hown.rd
        have hGa := Gb.to hG hG3
        have rX3 : LineAt w3 xb (.slice none 0 0) (.slice none 0 0) := Row.grown rX hG3 (by intro e; injection e with e; omega)
        have r03 : GameAt w3 w.heap.size g (.slice aa ms.length ac) (.slice ta g.tiers.length tc) := Row.grown r0 hG3 (by intro e; injection e with e; omega)
        have r13 : LineAt w3 (w.heap.size + 1) (.slice none 0 0) (.slice none 0 0) := Row.grown r1 hG3 (by intro e; injection e with e; omega)
        obtain ⟨u1, u2, u3, rfl⟩ := Rd.shape hrd
        have q0 := rX3.main
        have q1 := Row.frozen rX3 0
        have hulr := hide (hrd.setNe q0 nil_ne (.slice u1 u2 u3))
        have hlt1 := hide hown.lt
        have hownF := hide (hown.far (p := ⟨xb, 0, none⟩) (by intro e; have := (hown.lt _ e).1; simp only [] at this; omega) (.slice u1 u2 u3))
        have zS : W2.heap.size ≤ w3.heap.size := hG3.size
        clear rX r0 r1 hS hG hG3 d3 d4 hrd
        go_upto_region 11 with (fail)
        obtain ⟨W4, hW4⟩ : ∃ W4, W4 = w3.setCell ⟨xb, 0, none⟩ (.slice u1 u2 u3) := ⟨_, rfl⟩
        have rX4 : LineAt W4 xb (.slice u1 u2 u3) (.slice none 0 0) := by rw [hW4]; exact rX3.set0 _
        have r0 : GameAt W4 w.heap.size g (.slice aa ms.length ac) (.slice ta g.tiers.length tc) := by rw [hW4]; exact Row.far r03 (by simp only []; omega) _
        have r1 : LineAt W4 (w.heap.size + 1) (.slice none 0 0) (.slice none 0 0) := by rw [hW4]; exact Row.far r13 (by simp only []; omega) _
        have hS : StA 60 W4 b st := by rw [hW4]; exact Row.far hS3 (by simp only []; omega) _
        have hG : w.grownBy W4 (some b) := by rw [hW4]; exact Gb.cell hGa (by omega) _
        have hu4 : Rd I64 W4 (.slice u1 u2 u3) l := by rw [hW4]; exact hulr.out
        have hown4 : Own I64 W4 W2.heap.size 3 (.slice u1 u2 u3) l := by rw [hW4]; exact hownF.out
        have zS4 : W2.heap.size ≤ W4.heap.size := by rw [hW4]; simpa [World.setCell] using zS
        have d5 := r0.bonus
        have d6 := r0.bonusOf
        rw [← hW4]
        clear hW4 rX3 r03 r13 hS3 hGa q0 q1 hulr hownF zS hown
        go_wp2_with fail
        refine (c2.out hb0.out _ hS).mono ?_
        rintro e w5 ⟨v, rfl, hown2, hS5, hG5⟩
        simp only [] at hown2 hS5
        have hrd2 := hown2.rd
        have hGb := Gb.to hG hG5
        have hu5 := (hown4.grown hG5 (by cases hv : (Value.slice u1 u2 u3).ownBlock with | none => exact .inl rfl | some k => exact .inr (fun e => by injection e with e; have := (hlt1.out k hv).1; omega))).rd
        have rX5 : LineAt w5 xb (.slice u1 u2 u3) (.slice none 0 0) := Row.grown rX4 hG5 (by intro e; injection e with e; omega)
        have r15 : LineAt w5 (w.heap.size + 1) (.slice none 0 0) (.slice none 0 0) := Row.grown r1 hG5 (by intro e; injection e with e; omega)
        obtain ⟨v1, v2, v3, rfl⟩ := Rd.shape hrd2
        have q0 := rX5.bonus
        have q1 := Row.frozen rX5 1
        have hu5s := hide (hu5.setNe q0 nil_ne (.slice v1 v2 v3))
        have hv5s := hide (hrd2.setNe q0 nil_ne (.slice v1 v2 v3))
        clear r0 r1 hS hG hG5 d5 d6 hu4 hown4 hown2 rX4
        go_upto_region 13 with (fail)
        obtain ⟨W6, hW6⟩ : ∃ W6, W6 = w5.setCell ⟨xb, 1, none⟩ (.slice v1 v2 v3) := ⟨_, rfl⟩
        have rX6 : LineAt W6 xb (.slice u1 u2 u3) (.slice v1 v2 v3) := by rw [hW6]; exact rX5.set1 _
        have r1 : LineAt W6 (w.heap.size + 1) (.slice none 0 0) (.slice none 0 0) := by rw [hW6]; exact Row.far r15 (by simp only []; omega) _
        have hS : StA 60 W6 b st2 := by rw [hW6]; exact Row.far hS5 (by simp only []; omega) _
        have hG : w.grownBy W6 (some b) := by rw [hW6]; exact Gb.cell hGb (by omega) _
        have hu6 : Rd I64 W6 (.slice u1 u2 u3) l := by rw [hW6]; exact hu5s.out
        have hv6 : Rd I64 W6 (.slice v1 v2 v3) l2 := by rw [hW6]; exact hv5s.out
        rw [← hW6]
        clear hW6 rX5 r15 hS5 hGb q0 q1 hu5s hv5s hu5 hrd2
        clear rX6 hu6 hv6
        obtain ⟨hat, hlr, hlg⟩ := line_stored r1 Rd.nil Rd.nil
        have x0 := LineAt.main r1
        have x1 := LineAt.bonus r1
        have x2 := Row.frozen r1 0
        have x3 := Row.frozen r1 1
        have y0 := hide hat.main
        have y1 := hide hat.bonus
        have hS9 := hide (hS.line (L := w.heap.size + 1) (by omega) (.slice none 0 0) (.slice none 0 0))
        have hG9 := hide (Gb.toOwn hG hlg (fun k hk => by injection hk with hk; omega))
        replace hlr := hide hlr
        clear hat hlg hS hG
        go_wp2
        exact bodyPost_ret (v := .tuple #[.agg #[.slice none 0 0, .slice none 0 0], .int .i64 cB]) (by simp [results, Tryz.results15, go_sem, y0.out, y1.out]) rfl ⟨_, _, rfl, hlr.out, Fr.nil, Fr.nil, hS9.out, hG9.out⟩

  · rw [if_pos hc0]
    have hcn : (c != 0) = true := by simpa using hc0
    have hcm : (c == 0) = false := by simpa using hc0
    replace hc0 := hide hc0
    clear c2 hl3 hl4
    unfold gameVal
    go_enter Tryz.func15, Tryz.ntmps15
    go_upto_region 1 with (fail)
    obtain ⟨W, hW⟩ : ∃ W, W = ((w.alloc (Obj.cells #[.string g.name, .int .i64 g.kind, .int .i64 g.price, .int .i64 g.main, .int .i64 g.of, .int .i64 g.bonus, .int .i64 g.bonusOf, .int .i64 g.extra, .int .i64 g.draws, .int .i64 g.system, .int .i64 g.days, .int .i64 g.at_, .int .i64 g.close, .int .i64 g.cancel, .int .i64 g.expiry, .int .i64 g.pool, .int .i64 g.reserve, .int .i64 g.round, .int .i64 g.cap, .int .i64 g.rolls, (.slice aa ms.length ac), (.slice ta g.tiers.length tc)] 25)).alloc (Obj.cells #[(.slice none 0 0), (.slice none 0 0)] 42)) := ⟨_, rfl⟩
    have bW : Below w.heap.size w W := by rw [hW]; exact Bel.al (Bel.al (Below.refl _ _) _) _
    have r0 : GameAt W (w.heap.size) g ((.slice aa ms.length ac)) ((.slice ta g.tiers.length tc)) := by rw [hW]; exact Row.alloc (Row.new _ _ _) _
    have r1 : LineAt W (w.heap.size + 1) ((.slice none 0 0)) ((.slice none 0 0)) := by rw [hW]; exact Row.at2 _ _ _ _
    have sW : w.heap.size + 1 < W.heap.size := by rw [hW]; simp
    rw [← hW]
    clear hW
    go_wp2_with (first | (refine wpList_load_row rfl 25 _ rfl _ rfl _ _ _ _ r0 Tryz.underlying25 rfl (by kernel_rfl) ?_) | fail)
    refine (hc.out _ (hh.out.below bW)).mono ?_
    rintro e w1 ⟨sv, rfl, hb1⟩
    have B1 := Bel.to bW hb1
    have r0 := r0.keep hb1
    have r1 := r1.keep hb1
    have hS := hs.out.keep B1
    have hG := Gb.ofBelow B1 (some b)
    clear hb1 bW sW hh hc hs
    have d1 := r0.kind
    have d3 := r0.main
    have d4 := r0.of
    have z1 : w.heap.size + 1 < w1.heap.size := r1.lt
    go_upto_region 10 with (fail)
    obtain ⟨W2, hW2⟩ : ∃ W2, W2 = w1.alloc (Obj.cells #[.slice none 0 0, .slice none 0 0] 42) := ⟨_, rfl⟩
    have b2 : Below w1.heap.size w1 W2 := by rw [hW2]; exact Bel.al (Below.refl _ _) _
    obtain ⟨xb, hxb⟩ : ∃ xb, xb = w1.heap.size := ⟨_, rfl⟩
    have rX : LineAt W2 xb (.slice none 0 0) (.slice none 0 0) := by rw [hW2, hxb]; exact Row.new _ _ _
    have sX : xb < W2.heap.size := rX.lt
    rw [← hW2]
    rw [← hxb] at z1 ⊢
    clear hW2 hxb
    replace hS := hS.keep b2
    replace hG := Gb.thenBelow hG b2
    replace r0 := r0.keep b2
    replace r1 := r1.keep b2
    have d3 := r0.main
    have d4 := r0.of
    have d5 := r0.bonus
    clear b2 d1
    go_wp2_with fail
    refine (cc.out _ hS).mono ?_
    rintro e w3 ⟨u, rfl, hown, hS3, hG3⟩
    simp only [] at hown hS3
    have hrd := hown.rd
    have hGa := Gb.to hG hG3
    have rX3 : LineAt w3 xb (.slice none 0 0) (.slice none 0 0) := Row.grown rX hG3 (by intro e; injection e with e; omega)
    have r03 : GameAt w3 w.heap.size g (.slice aa ms.length ac) (.slice ta g.tiers.length tc) := Row.grown r0 hG3 (by intro e; injection e with e; omega)
    have r13 : LineAt w3 (w.heap.size + 1) (.slice none 0 0) (.slice none 0 0) := Row.grown r1 hG3 (by intro e; injection e with e; omega)
    obtain ⟨u1, u2, u3, rfl⟩ := Rd.shape hrd
    have q0 := rX3.main
    have q1 := Row.frozen rX3 0
    have hulr := hide (hrd.setNe q0 nil_ne (.slice u1 u2 u3))
    have hlt1 := hide hown.lt
    have hownF := hide (hown.far (p := ⟨xb, 0, none⟩) (by intro e; have := (hown.lt _ e).1; simp only [] at this; omega) (.slice u1 u2 u3))
    have zS : W2.heap.size ≤ w3.heap.size := hG3.size
    clear rX r0 r1 hS hG hG3 d3 d4 hrd
    go_upto_region 11 with (fail)
    obtain ⟨W4, hW4⟩ : ∃ W4, W4 = w3.setCell ⟨xb, 0, none⟩ (.slice u1 u2 u3) := ⟨_, rfl⟩
    have rX4 : LineAt W4 xb (.slice u1 u2 u3) (.slice none 0 0) := by rw [hW4]; exact rX3.set0 _
    have r0 : GameAt W4 w.heap.size g (.slice aa ms.length ac) (.slice ta g.tiers.length tc) := by rw [hW4]; exact Row.far r03 (by simp only []; omega) _
    have r1 : LineAt W4 (w.heap.size + 1) (.slice none 0 0) (.slice none 0 0) := by rw [hW4]; exact Row.far r13 (by simp only []; omega) _
    have hS : StA 60 W4 b st := by rw [hW4]; exact Row.far hS3 (by simp only []; omega) _
    have hG : w.grownBy W4 (some b) := by rw [hW4]; exact Gb.cell hGa (by omega) _
    have hu4 : Rd I64 W4 (.slice u1 u2 u3) l := by rw [hW4]; exact hulr.out
    have hown4 : Own I64 W4 W2.heap.size 3 (.slice u1 u2 u3) l := by rw [hW4]; exact hownF.out
    have zS4 : W2.heap.size ≤ W4.heap.size := by rw [hW4]; simpa [World.setCell] using zS
    have d5 := r0.bonus
    have d6 := r0.bonusOf
    rw [← hW4]
    clear hW4 rX3 r03 r13 hS3 hGa q0 q1 hulr hownF zS hown
    clear rX4 r0 hu4 hown4 d5 d6
    obtain ⟨hat, hlr, hlg⟩ := line_stored r1 Rd.nil Rd.nil
    have x0 := LineAt.main r1
    have x1 := LineAt.bonus r1
    have x2 := Row.frozen r1 0
    have x3 := Row.frozen r1 1
    have y0 := hide hat.main
    have y1 := hide hat.bonus
    have hS9 := hide (hS.line (L := w.heap.size + 1) (by omega) (.slice none 0 0) (.slice none 0 0))
    have hG9 := hide (Gb.toOwn hG hlg (fun k hk => by injection hk with hk; omega))
    replace hlr := hide hlr
    clear hat hlg hS hG
    go_wp2
    exact bodyPost_ret (v := .tuple #[.agg #[.slice none 0 0, .slice none 0 0], .int .i64 c]) (by simp [results, Tryz.results15, go_sem, y0.out, y1.out]) rfl ⟨_, _, rfl, hlr.out, Fr.nil, Fr.nil, hS9.out, hG9.out⟩


theorem rline_ok (g : GameD) (av tv : Value) (ms : List AddonM) (b : Nat) (s : St) (w : World) (h : GameR w av tv ms g) (hs : StA 60 w b s) (he : gameE g = 0) :
    Calls Tryz.prog 15 #[gameVal g av tv, .pointer (some ⟨b, 0, none⟩)] w (LineS 60 b (lineQ g s) w) := by
  by_cases hk : g.kind = 2
  · exact rline_digits g av tv ms b s w h hs he hk
  · exact rline_choose g av tv ms b s w h hs he hk
end Go.Proofs.YtokhhccokjfgjaaGreat
end

section
/- lotteryref14.Lines: so many quick picks of a game. Condition: a seed below 2^64. -/
open Go.RowKit
set_option linter.unusedVariables false
set_option linter.unusedSimpArgs false
namespace Go.Proofs.YtokhhccokjfgjaaGreat

set_option maxHeartbeats 2000000 in
set_option maxRecDepth 100000 in
theorem rlines_bad (g : GameD) (av tv : Value) (ms : List AddonM) (x : Nat) (n : Int) (w : World) (h : GameR w av tv ms g) (he : gameE g ≠ 0) :
    Calls Tryz.prog 8 #[gameVal g av tv, .int .u64 (x : Int), .int .i64 n] w (LinesC [] (gameE g) w) := by
  have hc := hide (fun X (hX : GameR X av tv ms g) => rcheck_any g av tv ms X hX)
  have hh := hide h
  obtain ⟨aa, ac, rfl, hal, ham⟩ := h.1.1.shape
  obtain ⟨ta, tc, rfl, htl, htm⟩ := h.2.2.shape
  clear h
  obtain ⟨c, hcc⟩ : ∃ c, c = gameE g := ⟨_, rfl⟩
  rw [← hcc] at hc he ⊢
  clear hcc
  have hcb : (c != 0) = true := by simpa using he
  replace he := hide he
  unfold gameVal
  go_enter Tryz.func8, Tryz.ntmps8
  go_upto_region 1 with (fail)
  obtain ⟨W, hW⟩ : ∃ W, W = (w.alloc (Obj.cells #[.string g.name, .int .i64 g.kind, .int .i64 g.price, .int .i64 g.main, .int .i64 g.of, .int .i64 g.bonus, .int .i64 g.bonusOf, .int .i64 g.extra, .int .i64 g.draws, .int .i64 g.system, .int .i64 g.days, .int .i64 g.at_, .int .i64 g.close, .int .i64 g.cancel, .int .i64 g.expiry, .int .i64 g.pool, .int .i64 g.reserve, .int .i64 g.round, .int .i64 g.cap, .int .i64 g.rolls, (.slice aa ms.length ac), (.slice ta g.tiers.length tc)] 25)) := ⟨_, rfl⟩
  have bW : Below w.heap.size w W := by rw [hW]; exact Bel.al (Below.refl _ _) _
  have r0 : GameAt W (w.heap.size) g ((.slice aa ms.length ac)) ((.slice ta g.tiers.length tc)) := by rw [hW]; exact Row.new _ _ _
  have sW : w.heap.size < W.heap.size := by rw [hW]; simp
  rw [← hW]
  clear hW
  go_wp2_with (first | (refine wpList_load_row rfl 25 _ rfl _ rfl _ _ _ _ r0 Tryz.underlying25 rfl (by kernel_rfl) ?_) | fail)
  refine (hc.out _ (hh.out.below bW)).mono ?_
  rintro e w1 ⟨sv, rfl, hb1⟩
  have B1 := Bel.to bW hb1
  have r0 := r0.keep hb1
  go_wp2
  go_ret2
  exact ⟨.slice none 0 0, rfl, LinesR.nil, B1⟩

set_option maxHeartbeats 2000000 in
set_option maxRecDepth 100000 in
theorem rlines_range (g : GameD) (av tv : Value) (ms : List AddonM) (x : Nat) (n : Int) (w : World) (h : GameR w av tv ms g) (he : gameE g = 0) (hn : n < 0 ∨ 1024 < n) :
    Calls Tryz.prog 8 #[gameVal g av tv, .int .u64 (x : Int), .int .i64 n] w (LinesC [] 2 w) := by
  have hc := hide (fun X (hX : GameR X av tv ms g) => rcheck_any g av tv ms X hX)
  rw [he] at hc
  have hh := hide h
  obtain ⟨aa, ac, rfl, hal, ham⟩ := h.1.1.shape
  obtain ⟨ta, tc, rfl, htl, htm⟩ := h.2.2.shape
  clear h
  replace he := hide he
  rcases hn with hn | hn
  all_goals
    unfold gameVal
    go_enter Tryz.func8, Tryz.ntmps8
    go_upto_region 1 with (fail)
    obtain ⟨W, hW⟩ : ∃ W, W = (w.alloc (Obj.cells #[.string g.name, .int .i64 g.kind, .int .i64 g.price, .int .i64 g.main, .int .i64 g.of, .int .i64 g.bonus, .int .i64 g.bonusOf, .int .i64 g.extra, .int .i64 g.draws, .int .i64 g.system, .int .i64 g.days, .int .i64 g.at_, .int .i64 g.close, .int .i64 g.cancel, .int .i64 g.expiry, .int .i64 g.pool, .int .i64 g.reserve, .int .i64 g.round, .int .i64 g.cap, .int .i64 g.rolls, (.slice aa ms.length ac), (.slice ta g.tiers.length tc)] 25)) := ⟨_, rfl⟩
    have bW : Below w.heap.size w W := by rw [hW]; exact Bel.al (Below.refl _ _) _
    have r0 : GameAt W (w.heap.size) g ((.slice aa ms.length ac)) ((.slice ta g.tiers.length tc)) := by rw [hW]; exact Row.new _ _ _
    have sW : w.heap.size < W.heap.size := by rw [hW]; simp
    rw [← hW]
    clear hW
    go_wp2_with (first | (refine wpList_load_row rfl 25 _ rfl _ rfl _ _ _ _ r0 Tryz.underlying25 rfl (by kernel_rfl) ?_) | fail)
    refine (hc.out _ (hh.out.below bW)).mono ?_
    rintro e w1 ⟨sv, rfl, hb1⟩
    have B1 := Bel.to bW hb1
    have r0 := r0.keep hb1

    go_wp2
    go_ret2
    exact ⟨.slice none 0 0, rfl, LinesR.nil, B1⟩

set_option maxHeartbeats 4000000 in
set_option maxRecDepth 100000 in
theorem rlines_ok (g : GameD) (av tv : Value) (ms : List AddonM) (x n : Nat) (w : World) (h : GameR w av tv ms g) (he : gameE g = 0) (hn : n ≤ 1024) :
    Calls Tryz.prog 8 #[gameVal g av tv, .int .u64 (x : Int), .int .i64 (n : Int)] w (LinesC (linesQ g n [] (x, 0)).1.1 (linesQ g n [] (x, 0)).1.2 w) := by
  have hc := hide (fun X (hX : GameR X av tv ms g) => rcheck_any g av tv ms X hX)
  rw [he] at hc
  have cl := hide (fun (b : Nat) (st : St) X (hX : GameR X av tv ms g) (hs : StA 60 X b st) => rline_ok g av tv ms b st X hX hs he)
  obtain ⟨R, hR⟩ : ∃ R, R = linesQ g n [] (x, 0) := ⟨_, rfl⟩
  rw [← hR]
  replace hR := hide hR.symm
  have hh := hide h
  obtain ⟨aa, ac, rfl, hal, ham⟩ := h.1.1.shape
  obtain ⟨ta, tc, rfl, htl, htm⟩ := h.2.2.shape
  clear h
  replace he := hide he
  have a1 : (0 : Int) ≤ (n : Int) := by omega
  have a2 : (n : Int) ≤ 1024 := by omega
  have hn2 := hide hn
  have cn := hide (fun X => rnew_any x X)
  clear hn
  unfold gameVal
  go_enter Tryz.func8, Tryz.ntmps8
  go_upto_region 1 with (fail)
  obtain ⟨W, hW⟩ : ∃ W, W = (w.alloc (Obj.cells #[.string g.name, .int .i64 g.kind, .int .i64 g.price, .int .i64 g.main, .int .i64 g.of, .int .i64 g.bonus, .int .i64 g.bonusOf, .int .i64 g.extra, .int .i64 g.draws, .int .i64 g.system, .int .i64 g.days, .int .i64 g.at_, .int .i64 g.close, .int .i64 g.cancel, .int .i64 g.expiry, .int .i64 g.pool, .int .i64 g.reserve, .int .i64 g.round, .int .i64 g.cap, .int .i64 g.rolls, (.slice aa ms.length ac), (.slice ta g.tiers.length tc)] 25)) := ⟨_, rfl⟩
  have bW : Below w.heap.size w W := by rw [hW]; exact Bel.al (Below.refl _ _) _
  have r0 : GameAt W (w.heap.size) g ((.slice aa ms.length ac)) ((.slice ta g.tiers.length tc)) := by rw [hW]; exact Row.new _ _ _
  have sW : w.heap.size < W.heap.size := by rw [hW]; simp
  rw [← hW]
  clear hW
  go_wp2_with (first | (refine wpList_load_row rfl 25 _ rfl _ rfl _ _ _ _ r0 Tryz.underlying25 rfl (by kernel_rfl) ?_) | fail)
  refine (hc.out _ (hh.out.below bW)).mono ?_
  rintro e w1 ⟨sv, rfl, hb1⟩
  have B1 := Bel.to bW hb1
  have r0 := r0.keep hb1
  clear hb1 bW sW hc
  go_wp2_with fail
  refine (cn.out _).mono ?_
  rintro e w2 ⟨rfl, hS, hb2, hz⟩
  have B2 := Bel.to B1 hb2
  have hsw1 : w.heap.size < w1.heap.size := r0.lt
  have r0 := r0.keep hb2
  obtain ⟨sb, hsb⟩ : ∃ sb, sb = w1.heap.size := ⟨_, rfl⟩
  rw [← hsb] at hS hz hsw1 ⊢
  have hsw : w.heap.size ≤ sb := Nat.le_of_lt hsw1
  have hbase : sb < w2.heap.size := by omega
  replace hsb := hide hsb
  replace hz := hide hz
  clear hb2 B1
  have hownI : OwnLn w2 w2.heap.size (.slice none 0 0) [] := OwnLn.nil _ _
  have hSI := hS
  have r0I := r0
  clear hS r0
  go_wp2
  go_loopg [11, 12] n (fun gh v i wr => ∃ (j : Nat) (ls : List LineD) (st : St) (ao : Option Addr) (m cap : Nat), gh = n - j ∧ j ≤ n ∧ i = .int .i64 (j : Int) ∧ v = .slice ao m cap ∧ OwnLn wr w2.heap.size (.slice ao m cap) ls ∧ StA 60 wr sb st ∧ GameAt wr w.heap.size g (.slice aa ms.length ac) (.slice ta g.tiers.length tc) ∧ Below w.heap.size w wr ∧ w2.heap.size ≤ wr.heap.size ∧ Hid (ls.length = j) ∧ Hid (linesQ g (n - j) ls st = R))
  case atStart => exact ⟨0, [], (x, 0), _, _, _, rfl, Nat.zero_le _, rfl, rfl, hownI, hSI, r0I, B2, Nat.le_refl _, rfl, hR⟩
  case round =>
    obtain ⟨j, ls, st, ao, m, cap, hgh, hj, rfl, rfl, hown, hS, r0, hB, hle, hlen, hD⟩ := hrel
    replace hgh := hide hgh
    by_cases hlt : j < n
    · have hlt2 := hide hlt
      have cc := cl.out sb st wr (hh.out.below hB) hS
      have hD2 := hD.out
      rw [show n - j = (n - j - 1) + 1 by omega, linesQ_succ] at hD2
      obtain ⟨L, hL⟩ : ∃ L, L = lineQ g st := ⟨_, rfl⟩
      rw [← hL] at cc hD2
      clear hL hD
      obtain ⟨⟨⟨a, b⟩, c⟩, st'⟩ := L
      simp only [] at cc hD2
      replace cc := hide cc
      have hol := hown.lt
      by_cases hc : c = 0
      · subst hc
        rw [if_neg (by simp)] at hD2
        replace hD2 := hide hD2
        replace hol := hide hol
        go_wp2_with (first | (refine wpList_load_row rfl 25 _ rfl _ rfl _ _ _ _ r0 Tryz.underlying25 rfl (by kernel_rfl) ?_) | fail)
        refine cc.out.mono ?_
        rintro e w4 ⟨u, v, rfl, hlr, fu, fv, hS4, hG4⟩
        simp only [] at hlr fu fv hS4
        have hown4 := hown.grown hG4 (fun k hk => by injection hk with hk; omega)
        have B4 := Gb.bel hB hG4 hsw
        have r4 : GameAt w4 w.heap.size g (.slice aa ms.length ac) (.slice ta g.tiers.length tc) := Row.grown r0 hG4 (by intro e; injection e with e; omega)
        have hle4 : w2.heap.size ≤ w4.heap.size := Nat.le_trans hle hG4.size
        have p1 := hide (ap_fr (v := .slice ao m cap) fu (fun k hk => (hol.out k hk).2))
        have p2 := hide (ap_fr (v := .slice ao m cap) fv (fun k hk => (hol.out k hk).2))
        have f1 := hide (fu.mono hle)
        have f2 := hide (fv.mono hle)
        obtain ⟨u1, u2, u3, rfl⟩ := Rd.shape hlr.1
        obtain ⟨v1, v2, v3, rfl⟩ := Rd.shape hlr.2
        clear hown hS r0 hB fu fv hle hG4
        unfold lineVal
        go_upto_region 14 with (fail)
        obtain ⟨W5, hW5⟩ : ∃ W5, W5 = w4.alloc (Obj.cells #[.slice u1 u2 u3, .slice v1 v2 v3] 42) := ⟨_, rfl⟩
        have b5 : Below w4.heap.size w4 W5 := by rw [hW5]; exact Bel.al (Below.refl _ _) _
        have rL : LineAt W5 w4.heap.size (.slice u1 u2 u3) (.slice v1 v2 v3) := by rw [hW5]; exact Row.new _ _ _
        rw [← hW5]
        clear hW5
        have x0 := rL.main
        have x1 := rL.bonus
        have b6 : ∀ o, Below w4.heap.size w4 (W5.alloc o) := fun o => Bel.al b5 o
        have hl5 := hlr.below b5
        have hown5 := hown4.keep b5
        have hS5 := hS4.keep b5
        have r5 := r4.keep b5
        have B5 := Bel.to B4 b5
        have hle5 : w2.heap.size ≤ W5.heap.size := Nat.le_trans hle4 b5.size
        clear hlr hown4 hS4 r4 B4 b5 b6 rL hle4
        go_wp2_with (with_reducible refine wpList_append_ln _ rfl _ _ 29 rfl w2.heap.size (.agg #[.slice none 0 0, .slice none 0 0]) 48 Tryz.underlying29 infoLine lineZ _ ls rfl ?_ W5.heap.size 1 rfl (.slice u1 u2 u3) (.slice v1 v2 v3) a b ?_ ?_ (slice_one _ _ _) (slice_one _ _ _) ?_ f1.out f2.out ?_ ?_ ?_ ?_ ?_ ?_)
        case refine_1 => exact hown5.keep (Bel.al (Below.refl _ _) _)
        case refine_2 => exact (Row.cell? (Row.new W5 42 [.slice u1 u2 u3, .slice v1 v2 v3]) 0).trans rfl
        case refine_3 => exact (Row.cell? (Row.new W5 42 [.slice u1 u2 u3, .slice v1 v2 v3]) 1).trans rfl
        case refine_4 => exact hl5.below (Bel.al (Below.refl _ _) _)
        case refine_5 => exact p1.out
        case refine_6 => exact p2.out
        case refine_7 => have := hlen.out; have := hn2.out; have := hlt2.out; omega
        case refine_8 => have := hlen.out; have := hn2.out; have := hlt2.out; omega
        case refine_9 => simp; omega
        intro v7 w7 hown7 hg7
        have hrow : ∀ k, (Value.slice ao m cap).ownBlock = some k → w2.heap.size ≤ k := fun k hk => (hown5.lt k hk).1
        have hS7 := (hS5.keep (Bel.al (Below.refl _ _) (Obj.cells #[.slice u1 u2 u3, .slice v1 v2 v3] 42))).row hg7 (fun k hk => by have := hrow k hk; omega)
        have r7 : GameAt w7 w.heap.size g (.slice aa ms.length ac) (.slice ta g.tiers.length tc) := Row.grown (r5.keep (Bel.al (Below.refl _ _) (Obj.cells #[.slice u1 u2 u3, .slice v1 v2 v3] 42))) hg7 (fun e => by have := hrow _ e.symm; omega)
        have B7 : Below w.heap.size w w7 := (Bel.al B5 _).grown hg7 (Bel.al B5 _).size (fun k hk => by have := hrow k hk; omega)
        have hle7 : w2.heap.size ≤ w7.heap.size := by have := hg7.size; simp at this; omega
        obtain ⟨a7, c7, rfl⟩ := hown7.shape
        have hlen7 : Hid ((ls ++ [(a, b)]).length = j + 1) := by have := hlen.out; show _ = _; simp; omega
        replace hlen7 := hlen7
        clear hg7 hown5 hS5 r5 B5 hl5 hrow
        go_wp2
        go_roundg (n - (j + 1))
        case measure => have := hgh.out; have := hlt2.out; omega
        case rel => exact ⟨j + 1, ls ++ [(a, b)], st', a7, _, c7, rfl, by have := hlt2.out; omega, by go_num, rfl, hown7, hS7, r7, B7, hle7, hlen7, hD2⟩
      · rw [if_pos hc] at hD2
        have hcn : (c != 0) = true := by simpa using hc
        replace hc := hide hc
        subst hD2
        clear hR hol
        go_wp2_with (first | (refine wpList_load_row rfl 25 _ rfl _ rfl _ _ _ _ r0 Tryz.underlying25 rfl (by kernel_rfl) ?_) | fail)
        refine cc.out.mono ?_
        rintro e w4 ⟨u, v, rfl, hlr, fu, fv, hS4, hG4⟩
        have B4 := Gb.bel hB hG4 hsw
        obtain ⟨u1, u2, u3, rfl⟩ := Rd.shape hlr.1
        obtain ⟨v1, v2, v3, rfl⟩ := Rd.shape hlr.2
        clear hlr fu fv hS4 hG4 hown hS r0
        unfold lineVal
        go_wp2
        go_ret2
        exact ⟨.slice none 0 0, rfl, LinesR.nil, Bel.al B4 _⟩
    · have hjn : j = n := by omega
      subst hjn
      have hD2 := hD.out
      rw [Nat.sub_self, linesQ] at hD2
      subst hD2
      clear hD hR
      have hrd := hown.rd
      go_wp2
      go_ret2
      exact ⟨_, rfl, hrd, hB⟩

theorem rlines_any (g : GameD) (av tv : Value) (ms : List AddonM) (x : Nat) (n : Int) (w : World) (h : GameR w av tv ms g) :
    Calls Tryz.prog 8 #[gameVal g av tv, .int .u64 (x : Int), .int .i64 n] w (LinesC (linesP g x n).1 (linesP g x n).2 w) := by
  unfold linesP
  by_cases he : gameE g = 0
  · rw [if_neg (by simpa using he)]
    by_cases hn : n < 0 ∨ 1024 < n
    · rw [if_pos hn]; exact rlines_range g av tv ms x n w h he hn
    · rw [if_neg hn]
      obtain ⟨n, rfl⟩ := Int.eq_ofNat_of_zero_le (show 0 ≤ n by omega)
      rw [Int.toNat_natCast]
      exact rlines_ok g av tv ms x n w h he (by omega)
  · rw [if_pos he]; exact rlines_bad g av tv ms x n w h he
end Go.Proofs.YtokhhccokjfgjaaGreat
end

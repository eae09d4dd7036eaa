/- Plain: the next combination has the next rank. -/
import Derived.Test.YtompjmcbfgckiaaNextLaw
set_option linter.unusedVariables false
set_option linter.unusedSimpArgs false
namespace Go.Proofs.Ytompjmcbfgckiaa

theorem bump_cons (x : Int) (d : Nat) : bump x (d + 1) = x :: bump (x + 1) d := by
  unfold bump
  rw [List.range_succ_eq_map, List.map_cons, List.map_map]
  congr 1
  · simp
  · apply List.map_congr_left
    intro t _
    simp only [Function.comp]
    omega

theorem rank_bump (n x j : Nat) : rankL n x (bump ((x : Int) + 1) j) = 0 := by
  induction j generalizing x with
  | zero => rfl
  | succ j ih =>
    have e : ((x : Int) + 1) = ((x + 1 : Nat) : Int) := by omega
    rw [bump_cons, rankL, e, Int.toNat_natCast, show x + 1 - 1 - x = 0 by omega, sumC, ih, Nat.zero_add]

theorem check_bump {n x : Int} {j : Nat} (h0 : 0 ≤ x) (h : x + j ≤ n) (last : Int) (hl : last ≤ x) : checkL n last (bump (x + 1) j) = 0 := by
  induction j generalizing x last with
  | zero => rfl
  | succ j ih =>
    rw [bump_cons, checkL, if_neg (by omega), if_neg (by omega)]
    exact ih (by omega) (by omega) _ (by omega)

theorem nextI_cons (v : Int) (t : List Int) (n : Int) (m : Nat) :
    nextI (v :: t) n ((t.length : Int) + 1) (m + 1) = match nextI t n t.length m with
      | some i => some (i + 1)
      | none => if v = n - (t.length + 1) + 1 then none else some 0 := by
  induction m with
  | zero =>
    rw [nextI, nextI, nextI]
    simp
  | succ m ih =>
    rw [nextI, ih]
    rw [nextI]
    have e : (v :: t).getD (m + 1) 0 = t.getD m 0 := by simp
    rw [e]
    by_cases h : t.getD m 0 = n - t.length + 1 + m
    · rw [if_pos h, if_pos (by omega)]
    · rw [if_neg h, if_neg (by omega)]

theorem next_law {n : Nat} {l : List Int} {last : Nat} (hl : last ≤ n) (h : checkL n last l = 0) :
    match nextI l n l.length l.length with
    | none => rankL n last l + 1 = choose (n - last) l.length
    | some i => checkL n last (l.take i ++ bump (l.getD i 0 + 1) (l.length - i)) = 0 ∧ rankL n last (l.take i ++ bump (l.getD i 0 + 1) (l.length - i)) = rankL n last l + 1 := by
  induction l generalizing last with
  | nil => simp [nextI, rankL, choose_zero]
  | cons v t ih =>
    obtain ⟨h1, h2, h3, h4⟩ := checkL_cons h
    obtain ⟨v, rfl⟩ := Int.eq_ofNat_of_zero_le (show 0 ≤ v by omega)
    have hi := ih (last := v) (by omega) h4
    have hlen := checkL_len h4 (by omega)
    have e := nextI_cons (v : Int) t n t.length
    rw [List.length_cons]
    have e2 : ((t.length + 1 : Nat) : Int) = (t.length : Int) + 1 := by omega
    rw [e2, e]
    have tele := sumC_tele (n := n) (j := t.length) (a := last) (d := v - 1 - last) (by omega)
    rw [show last + (v - 1 - last) = v - 1 by omega] at tele
    cases hn : nextI t n t.length t.length with
    | some i =>
      rw [hn] at hi
      simp only
      have hd : ((v : Int) :: t).getD (i + 1) 0 = t.getD i 0 := by simp
      rw [hd, List.take_succ_cons, List.cons_append, show t.length + 1 - (i + 1) = t.length - i by omega]
      have hlt := nextI_lt hn
      refine ⟨?_, ?_⟩
      · rw [checkL, if_neg (by omega), if_neg (by omega)]
        exact hi.1
      · rw [rankL, rankL, Int.toNat_natCast, hi.2, List.length_append, List.length_take, length_bump, show min i t.length + (t.length - i) = t.length by omega]
        omega
    | none =>
      rw [hn] at hi
      simp only at hi ⊢
      by_cases hv : (v : Int) = (n : Int) - (t.length + 1) + 1
      · rw [if_pos hv]
        simp only
        rw [show n - (v - 1) = t.length + 1 by omega, choose_self] at tele
        rw [show n - v = t.length by omega, choose_self] at hi
        rw [rankL, Int.toNat_natCast]
        omega
      · rw [if_neg hv]
        simp only
        rw [List.take_zero, List.nil_append, List.getD_cons_zero, Nat.sub_zero]
        refine ⟨check_bump (by omega) (by omega) _ (by omega), ?_⟩
        have ev : ((v : Int) + 1) = ((v + 1 : Nat) : Int) := by omega
        rw [bump_cons, rankL, length_bump, ev, Int.toNat_natCast, rank_bump, rankL, Int.toNat_natCast]
        obtain ⟨d, hd⟩ : ∃ d, v - 1 - last = d := ⟨_, rfl⟩
        rw [show v + 1 - 1 - last = d + 1 by omega, hd, sumC, show last + d + 1 = v by omega]
        omega

/-- What Next makes of the combination with rank r. -/
theorem next_unrank {n k r : Nat} (hk : k ≤ n) (hr : r < choose n k) (hn : n ≤ 80) :
    (nextV (unrankL n 1 r k) n).2 = decide (r + 1 < choose n k) ∧
    (r + 1 < choose n k → checkL n 0 (nextV (unrankL n 1 r k) n).1 = 0 ∧ rankL n 0 (nextV (unrankL n 1 r k) n).1 = r + 1 ∧ (nextV (unrankL n 1 r k) n).1.length = k) := by
  have hc := check_unrankL (n := n) (m := n) (w := 1) (r := r) (j := k) (by omega) (by omega) hr 0 (by omega)
  have hl := unrankL_len (w := 1) hr
  have hrk := rank_unrankL (n := n) (m := n) (w := 1) (by omega) hr (by omega)
  rw [Nat.sub_self] at hrk
  have hlaw := next_law (n := n) (last := 0) (by omega) hc
  unfold nextV
  rw [if_pos ⟨by omega, by omega, hc⟩]
  cases hI : nextI (unrankL n 1 r k) n (unrankL n 1 r k).length (unrankL n 1 r k).length with
  | none =>
    rw [hI] at hlaw
    simp only at hlaw
    rw [hrk, hl, Nat.sub_zero] at hlaw
    refine ⟨?_, fun h => by omega⟩
    simp only [nextOf]
    rw [eq_comm, decide_eq_false_iff_not]; omega
  | some i =>
    rw [hI] at hlaw
    simp only at hlaw
    have hi := nextI_lt hI
    obtain ⟨a, b⟩ := hlaw
    have hlt := rankL_lt (n := n) (last := 0) (by omega) a
    have hlen : ((unrankL n 1 r k).take i ++ bump ((unrankL n 1 r k).getD i 0 + 1) ((unrankL n 1 r k).length - i)).length = k := by
      rw [List.length_append, List.length_take, length_bump]; omega
    rw [hlen, b, hrk, Nat.sub_zero] at hlt
    rw [hrk] at b
    refine ⟨?_, fun _ => ⟨a, b, hlen⟩⟩
    simp only [nextOf]
    rw [eq_comm, decide_eq_true_iff]; exact hlt
end Go.Proofs.Ytompjmcbfgckiaa

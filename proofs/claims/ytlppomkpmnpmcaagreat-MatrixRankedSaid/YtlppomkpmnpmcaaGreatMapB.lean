/- A map whose elements are Booleans, made by the call itself, as the list of the keys that hold true. No condition. -/
import Derived.WalkKit
import Derived.Maps.OwnOps
import Derived.Maps.Views
open Go.RowKit
set_option linter.unusedVariables false
namespace Go.Proofs.YtlppomkpmnpmcaaGreat
open Go.Maps (Keyed)

theorem plainElem_bool_inv {H : Type} {P : Program} {e : TypeId} (he : P.underlying e = some .bool) {v : Value} {z : DataW H × List MemPlace} (h : plainElem P e v = some z) : ∃ x, v = .bool x ∧ z = (.lit (.bool x), []) := by
  unfold plainElem at h
  rw [he] at h
  cases v <;> simp at h
  exact ⟨_, rfl, h.symm⟩

/-- Block b is a map of at most n entries whose elements are true at the keys on S, and false elsewhere. -/
def SetIs (P : Program) (k e : TypeId) (w : World) (b n : Nat) (S : List Lit) : Prop :=
  ∃ D : DataW Unit, Go.Maps.IsMap D ∧ w.ownsMap P k (plainElem P e) b n D ∧ ∀ kl, WideAt.IsKeyLit kl → D.atKey kl (.lit (.bool false)) = .lit (.bool (S.any (fun y => y.sameKey kl)))

theorem SetIs.made (P : Program) (k e : TypeId) (w : World) : SetIs P k e (w.alloc (.map #[] 0)) w.heap.size 0 [] :=
  ⟨.map [], Go.Maps.isMap_empty, World.ownsMap_made w P k _, fun _ _ => rfl⟩

theorem SetIs.alloc {P : Program} {k e : TypeId} {w : World} {b n : Nat} {S : List Lit} (h : SetIs P k e w b n S) (o : Obj) : SetIs P k e (w.alloc o) b n S := by
  obtain ⟨D, h1, h2, h3⟩ := h
  exact ⟨D, h1, h2.alloc o, h3⟩

theorem SetIs.drew {P : Program} {k e : TypeId} {w : World} {b n : Nat} {S : List Lit} (h : SetIs P k e w b n S) : SetIs P k e w.drew b n S := h

theorem SetIs.kept {P : Program} {k e : TypeId} {w w' : World} {b n : Nat} {S : List Lit} {row : Option Nat} (h : SetIs P k e w b n S) (hg : w.grownBy w' row) (hne : some b ≠ row) : SetIs P k e w' b n S := by
  obtain ⟨D, h1, h2, h3⟩ := h
  exact ⟨D, h1, h2.kept hg hne, h3⟩

theorem SetIs.lt {P : Program} {k e : TypeId} {w : World} {b n : Nat} {S : List Lit} (h : SetIs P k e w b n S) : b < w.heap.size := by
  obtain ⟨D, h1, h2, h3⟩ := h
  exact h2.lt

/-- The map stays what it is in a world whose blocks below w's size are as they were. -/
theorem SetIs.below {P : Program} {k e : TypeId} {w w' : World} {b n : Nat} {S : List Lit} (h : SetIs P k e w b n S) (hb : Below w.heap.size w w') : SetIs P k e w' b n S := by
  have hl := h.lt
  obtain ⟨D, h1, ⟨es, clock, h4, F, hs, hD⟩, h3⟩ := h
  exact ⟨D, h1, ⟨es, clock, (hb.block b hl).trans h4, F, hs, hD⟩, h3⟩

/-- 'm[k]' at Boolean elements: the walk goes on with what the list says. -/
theorem wpList_lookup_set {P : Program} (w : World) {ops : Array Oper} {rest : List Oper} {o : Oper} {a : Act} {Q : Exit → Act → World → Prop}
    (hg : o.guard = none) (m x : Operand) (t : TypeId) (hop : o.op = Op.lookup t m x false)
    (k e : TypeId) (K : Keyed P k) (ht : P.underlying t = some (.map k e)) (he : P.underlying e = some .bool) (hz : (zeroValue e).run P w = .ok (.bool false) w) (b n : Nat) (S : List Lit)
    (hm : a.eval m = .map (some b)) (hown : SetIs P k e w b n S) (key : Value) (kl : Lit) (hx : a.eval x = key) (hkey : keyOf P k key = some kl) (hkl : WideAt.IsKeyLit kl)
    (hK : wpList P ops Q rest (a.put o.dst (.bool (S.any (fun y => y.sameKey kl)))) w) :
    wpList P ops Q (o :: rest) a w := by
  obtain ⟨D, h1, h2, h3⟩ := hown
  refine wpList_plain hg fun K' hK' => ?_
  obtain ⟨v, ps, hrun, hv⟩ := h2.lookup K ht hz (plainElem_bool he false) hkey
  obtain ⟨c, rfl, hc⟩ := plainElem_bool_inv he hv
  simp only [Prod.mk.injEq] at hc
  rw [h3 kl hkl] at hc
  have hcc : c = S.any (fun y => y.sameKey kl) := by
    have := hc.1
    injection this with this
    injection this with this
    exact this.symm
  subst hcc
  unfold Oper.wp
  simp [execOp, hop, hm, hx, hrun, Result.andThen]
  exact hK' _ _ hK

/-- 'm[k] = true'. -/
theorem wpList_update_set {P : Program} (w : World) {ops : Array Oper} {rest : List Oper} {o : Oper} {a : Act} {Q : Exit → Act → World → Prop}
    (hg : o.guard = none) (m x v : Operand) (t : TypeId) (hop : o.op = Op.mapUpdate t m x v)
    (k e : TypeId) (K : Keyed P k) (ht : P.underlying t = some (.map k e)) (he : P.underlying e = some .bool) (b n : Nat) (S : List Lit)
    (hm : a.eval m = .map (some b)) (hown : SetIs P k e w b n S) (hn : n < maxLen) (key : Value) (kl : Lit) (hx : a.eval x = key) (hv : a.eval v = .bool true) (hkey : keyOf P k key = some kl) (hkl : WideAt.IsKeyLit kl)
    (hK : ∀ w', SetIs P k e w' b (n + 1) (S ++ [kl]) → w.grownBy w' (some b) → wpList P ops Q rest (a.put o.dst undef) w') :
    wpList P ops Q (o :: rest) a w := by
  obtain ⟨D, h1, h2, h3⟩ := hown
  refine wpList_mapUpdate_own w hg m x v t hop k e K ht (plainElem P e) b n D hm h2 hn key (.bool true) kl hx hv hkey (.lit (.bool true)) [] (plainElem_bool he true) ?_
  intro w' hown' hgrow'
  refine hK w' ⟨_, h1.put kl _, hown', fun kl' hkl' => ?_⟩ hgrow'
  rw [List.any_append]
  by_cases e' : kl' = kl
  · subst e'
    rw [Go.Maps.atKey_put_same h1 hkl]
    simp [WideAt.sameKey_self hkl]
  · rw [Go.Maps.atKey_put_other e', h3 kl' hkl']
    simp [Go.Maps.sameKey_ne (fun h => e' h.symm)]

/-- The look-up as an equation on its run: the walk takes it as it stands. -/
theorem SetIs.look {P : Program} {k e t : TypeId} {w : World} {b n : Nat} {S : List Lit} (hown : SetIs P k e w b n S) (K : Keyed P k) (ht : P.underlying t = some (.map k e)) (he : P.underlying e = some .bool) (hz : (zeroValue e).run P w = .ok (.bool false) w)
    {key : Value} {kl : Lit} (hkey : keyOf P k key = some kl) (hkl : WideAt.IsKeyLit kl) : (Instr.lookup t (.map (some b)) key false).run P w = .ok (.bool (S.any (fun y => y.sameKey kl))) w := by
  obtain ⟨D, h1, h2, h3⟩ := hown
  obtain ⟨v, ps, hrun, hv⟩ := h2.lookup K ht hz (plainElem_bool he false) hkey
  obtain ⟨c, rfl, hc⟩ := plainElem_bool_inv he hv
  simp only [Prod.mk.injEq] at hc
  rw [h3 kl hkl] at hc
  have hcc : c = S.any (fun y => y.sameKey kl) := by
    have := hc.1
    injection this with this
    injection this with this
    exact this.symm
  rw [hrun, hcc]

/-- 'm[k] = true' at the operation by itself. -/
theorem wp_update_set {P : Program} {w : World} {o : Oper} {a : Act} {K' : Act → World → Prop} {Q : Exit → Act → World → Prop}
    (m x v : Operand) (t : TypeId) (hop : o.op = Op.mapUpdate t m x v)
    (k e : TypeId) (K : Keyed P k) (ht : P.underlying t = some (.map k e)) (he : P.underlying e = some .bool) (b n : Nat) (S : List Lit)
    (hm : a.eval m = .map (some b)) (hown : SetIs P k e w b n S) (hn : n < maxLen) (key : Value) (kl : Lit) (hx : a.eval x = key) (hv : a.eval v = .bool true) (hkey : keyOf P k key = some kl) (hkl : WideAt.IsKeyLit kl)
    (hK : ∀ w', SetIs P k e w' b (n + 1) (S ++ [kl]) → w.grownBy w' (some b) → K' (a.put o.dst undef) w') :
    o.wp P a w K' Q := by
  obtain ⟨D, h1, h2, h3⟩ := hown
  obtain ⟨w', hrun, r1, r2⟩ := h2.update K ht hn hkey (plainElem_bool he true)
  unfold Oper.wp
  simp [execOp, hop, hm, hx, hv, hrun, Result.andThen]
  refine hK w' ⟨_, h1.put kl _, r1, fun kl' hkl' => ?_⟩ r2
  rw [List.any_append]
  by_cases e' : kl' = kl
  · subst e'
    rw [Go.Maps.atKey_put_same h1 hkl]
    simp [WideAt.sameKey_self hkl]
  · rw [Go.Maps.atKey_put_other e', h3 kl' hkl']
    simp [Go.Maps.sameKey_ne (fun h => e' h.symm)]

theorem bytes_loop (s : ByteArray) : ∀ i r, ByteArray.toList.loop s i r = r.reverse ++ s.data.toList.drop i := by
  intro i r
  induction i, r using ByteArray.toList.loop.induct s with
  | case1 i r h ih =>
    unfold ByteArray.toList.loop; rw [if_pos h, ih]
    have hl : i < s.data.toList.length := by simpa using h
    rw [List.drop_eq_getElem_cons hl, List.reverse_cons, List.append_assoc]
    have hg : s.get! i = s.data.toList[i] := by
      obtain ⟨d⟩ := s
      show d[i]! = _
      simp at hl
      simp [getElem!_pos, hl]
    rw [hg]; rfl
  | case2 i r h =>
    unfold ByteArray.toList.loop; rw [if_neg h]
    rw [List.drop_of_length_le (by simpa using h)]; simp
theorem bytes_list (s : ByteArray) : s.toList = s.data.toList := by
  unfold ByteArray.toList; rw [bytes_loop]; simp
theorem bytes_inj {a b : ByteArray} (h : a.toList = b.toList) : a = b := by
  rw [bytes_list, bytes_list] at h
  obtain ⟨⟨x⟩⟩ := a
  obtain ⟨⟨y⟩⟩ := b
  simp at h
  rw [h]
theorem bytes_ne {a b : ByteArray} (h : a ≠ b) : (a.toList == b.toList) = false := by
  rw [beq_eq_false_iff_ne]
  exact fun e => h (bytes_inj e)
end Go.Proofs.YtlppomkpmnpmcaaGreat

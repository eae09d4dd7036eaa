/- Lemmas, merged out of smaller texts (wip/tools/mergedce.py). No condition. -/
import Derived.Deep.RegionWith
import Derived.Deep.RegionHeld3
import Derived.Deep.DeepCutAuto
import Derived.Laws.Rows
import Derived.Deep.LoopGhost
import Derived.BigQuiet
import Derived.Test.YtelgllgaofjgjaaGreatHCore
import Derived.Test.YtelgllgaofjgjaaGreatHRule
section
open Go.RowKit
set_option linter.unusedVariables false
set_option linter.unusedSimpArgs false
namespace Go.Proofs.YtelgllgaofjgjaaGreat
theorem Rd.at2 {w : World} {o : Obj} {t : TypeId} {l : List Int} {n : Nat} (hn : n = l.length) (hm : n ≤ 9223372036854775807) : Rd I64 ((w.alloc o).alloc (.cells (l.map I64).toArray t)) (.slice (some ⟨w.heap.size + 1,0,none⟩) n n) l :=
 (Row.at2 w o t (l.map I64)).rdAll hn (Nat.le_refl _) hm
theorem mat_bounds {g : GameD} (hk : g.kind = 1 ∨ g.kind = 2) (h : matB g = true) : g.main ≤ 10 ∧ g.bonus ≤ 4 ∧ g.extra ≤ 4 := by
 unfold matB at h
 simp only [Bool.and_eq_true] at h
 obtain ⟨⟨⟨⟨⟨⟨⟨h1,h2⟩,h3⟩,h4⟩,h5⟩,h6⟩,h7⟩,h8⟩ := h
 have a2 := inB_iff.1 h2
 refine ⟨a2.2,?_,?_⟩
 ·split at h4
  ·have := inB_iff.1 h4;omega
  ·have := inB_iff.1 h4;omega
 ·split at h6
  ·have := inB_iff.1 h6;omega
  ·rw [Bool.and_eq_true] at h6;have := inB_iff.1 h6.1;omega
end Go.Proofs.YtelgllgaofjgjaaGreat
end

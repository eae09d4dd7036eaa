/- nat.Of. -/
import Derived.Test.YtlppomkpmnpmcaaGreatTrim
set_option linter.unusedVariables false
set_option linter.unusedSimpArgs false
namespace Go.Proofs.YtlppomkpmnpmcaaGreat
open Go.RowKit

theorem of_any (n : Nat) (w : World) (h : n < 18446744073709551616) :
    Calls Tryz.prog 49 #[.int .u64 (n : Int)] w (SomeNat n w) := by
  go_enter Tryz.func49, Tryz.ntmps49
  go_wp2_with fail
  refine (trimmed _ [n % 4294967296, n / 4294967296] _ (Rd.new _ (by simp) rfl (by simp) (by decide) (by simp)) (by intro x hx; simp at hx; omega)).mono ?_
  rintro e w1 ⟨u, rfl, hu, hb⟩
  have e1 : val [n % 4294967296, n / 4294967296] = n := by simp only [val]; omega
  rw [e1] at hu
  clear e1
  obtain ⟨hc, hf⟩ := bcell hb
  have hc0 : w1.cell? ⟨w.heap.size, 0, none⟩ = some (.slice none 0 0) := by rw [hc _ _ (by simp; omega)]; simp
  have hu' := hu.setNe hc0 (fun _ h => by cases h) u
  obtain ⟨ao, cap, rfl, hlc, hcm, hr⟩ := Rd.form hu
  go_wp2
  refine bodyPost_ret (v := .agg #[.slice ao (limbs n).length cap]) (by simp [results, Tryz.results49, go_sem, hc0]) rfl ⟨_, rfl, hu', Bel.st (Bel.two _ _ hb) (Nat.le_refl _) _⟩
end Go.Proofs.YtlppomkpmnpmcaaGreat

/- Contracts: words that have patterns, of the program. -/
import Derived.Test.YticejlplbibegaaGreatDoorC41
import Derived.Test.YticejlplbibegaaGreatDoorM13
namespace Go.Proofs.YticejlplbibegaaGreatDoor
open Go
set_option linter.unusedSimpArgs false
set_option linter.unusedVariables false

theorem pat_idx {p : List UInt8} (h : isPat p = true) : (∀ c ∈ p, vIdx c < 3) ∧ p ≠ [] := by
  obtain ⟨hp1, hp8, hpv⟩ := isPat_in h
  refine ⟨fun c hc => ?_, by intro e; rw [e] at hp1; simp at hp1⟩
  have := isV_range (List.all_eq_true.1 hpv c hc)
  unfold vIdx; omega
def patC (w p : List UInt8) : Int := if isWord w && isPat p then 0 else 1
end Go.Proofs.YticejlplbibegaaGreatDoor

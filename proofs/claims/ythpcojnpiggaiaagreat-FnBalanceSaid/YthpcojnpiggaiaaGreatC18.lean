/- Contracts and laws: images and iterates. -/
import Derived.Test.YthpcojnpiggaiaaGreatC17
namespace Go.Proofs.YthpcojnpiggaiaaGreat
open Go
set_option linter.unusedSimpArgs false
set_option linter.unusedVariables false

theorem codeI_one (ws : List (List UInt8)) (w : List UInt8) : codeI ws w 1 = codeM ws w := by
  unfold codeI codeM
  rw [show decide ((0 : Int) ≤ 1 ∧ (1 : Int) ≤ 100) = true by decide, Bool.and_true]
theorem codeI_in {ws : List (List UInt8)} {w : List UInt8} {k : Int} : codeI ws w k = if codeM ws w = 0 then (if 0 ≤ k ∧ k ≤ 100 then 0 else 2) else codeM ws w := by
  unfold codeI codeM
  cases h1 : (isMor ws && isWord w)
  · rfl
  · cases h2 : fewB w ws.length
    · rfl
    · by_cases h3 : 0 ≤ k ∧ k ≤ 100
      · simp [h3]
      · simp [h3]
end Go.Proofs.YthpcojnpiggaiaaGreat

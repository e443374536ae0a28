/- Draws: a morphism and a number; a morphism and two numbers. -/
import Derived.Test.YticejlplbibegaaGreatDoorC49
namespace Go.Proofs.YticejlplbibegaaGreatDoor
open Go
set_option linter.unusedSimpArgs false
set_option linter.unusedVariables false

/-- A drawn morphism: its words lie in memory of their own. -/
def MorGot (M M' : Mem) (v : Value) (ws : List (List UInt8)) : Prop := ∃ D : Mem, (∀ i, M i ≠ none → D i = none) ∧ Rd D v (strs ws) ∧ Sub D M' ∧ ws.length ≤ 200 ∧ ∀ w ∈ ws, w.length ≤ 100
theorem told_sub {M N : Mem} (h : Sub M N) {i : Nat} (hi : M i ≠ none) : N i ≠ none := by
  cases e : M i with
  | none => exact absurd e hi
  | some B => rw [h _ _ e]; intro q; cases q
end Go.Proofs.YticejlplbibegaaGreatDoor

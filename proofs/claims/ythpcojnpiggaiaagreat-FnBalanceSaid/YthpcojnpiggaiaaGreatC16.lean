/- Contracts: all words of a length. -/
import Derived.Test.YthpcojnpiggaiaaGreatC12
import Derived.Test.YthpcojnpiggaiaaGreatC13
namespace Go.Proofs.YthpcojnpiggaiaaGreat
open Go
set_option linter.unusedSimpArgs false
set_option linter.unusedVariables false

/-- A word with one of the first c letters behind it. -/
def grow1 (w : List UInt8) (c : Nat) : List (List UInt8) := (List.range c).map fun x => w ++ [ltr x]
def growA (out : List (List UInt8)) (k : Nat) : List (List UInt8) := out.flatMap fun w => grow1 w k
def allW (k : Nat) : Nat → List (List UInt8)
  | 0 => [[]]
  | m + 1 => growA (allW k m) k
theorem grow1_succ (w : List UInt8) (c : Nat) : grow1 w (c + 1) = grow1 w c ++ [w ++ [ltr c]] := by simp [grow1, List.range_succ]
theorem growA_snoc (out : List (List UInt8)) (w : List UInt8) (k : Nat) : growA (out ++ [w]) k = growA out k ++ grow1 w k := by simp [growA]
theorem growA_len (out : List (List UInt8)) (k : Nat) : (growA out k).length = out.length * k := by
  induction out with
  | nil => simp [growA]
  | cons w out ih =>
    have : growA (w :: out) k = grow1 w k ++ growA out k := by simp [growA]
    rw [this, List.length_append, ih, List.length_cons, Nat.succ_mul]
    simp [grow1]; omega
theorem allW_len (k : Nat) : ∀ m, (allW k m).length = k ^ m
  | 0 => rfl
  | m + 1 => by rw [allW, growA_len, allW_len k m, Nat.pow_succ]
theorem allW_word (k : Nat) : ∀ m, ∀ w ∈ allW k m, w.length = m
  | 0 => by simp [allW]
  | m + 1 => by
    intro w hw
    obtain ⟨u, hu, hw⟩ := List.mem_flatMap.1 hw
    obtain ⟨x, _, rfl⟩ := List.mem_map.1 hw
    rw [List.length_append, allW_word k m u hu]; rfl
theorem allW_fine (k m : Nat) (h : m ≤ 60) : Fine (allW k m) := fun w hw => by rw [allW_word k m w hw]; omega
theorem pow_step {k m : Nat} (hk : k ≤ 5) (h : k ^ m ≤ 256) : k ^ (m + 1) ≤ 1280 := by
  rw [Nat.pow_succ]
  exact Nat.mul_le_mul h hk
def inW (m k : Int) : Bool := decide (0 ≤ m ∧ m ≤ 60) && decide (1 ≤ k ∧ k ≤ 5)
def wordsR (m k : Int) : List (List UInt8) := if inW m k then (if k.toNat ^ m.toNat ≤ 256 then allW k.toNat m.toNat else []) else []
def wordsC (m k : Int) : Int := if inW m k then (if k.toNat ^ m.toNat ≤ 256 then 0 else 3) else 2
end Go.Proofs.YthpcojnpiggaiaaGreat

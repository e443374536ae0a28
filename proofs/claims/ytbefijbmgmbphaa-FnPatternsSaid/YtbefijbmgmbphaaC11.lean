/- Contracts: abelian powers of words. -/
import Derived.Test.YtbefijbmgmbphaaC10
namespace Go.Proofs.Ytbefijbmgmbphaa
open Go
set_option linter.unusedSimpArgs false
set_option linter.unusedVariables false

theorem empty_of {rs : List Value} {rows : List (List Int)} (h : rs.length = rows.length) : ((rs.length : Int) == 0) = rows.isEmpty := by
  rw [h]
  cases rows with
  | nil => rfl
  | cons a l => rw [beq_eq_false_iff_ne.2 (by simp only [List.length_cons]; omega)]; rfl
def powC (w : List UInt8) (k : Int) : Int := if isWord w then (if 2 ≤ k ∧ k ≤ 60 then 0 else 2) else 1
def powR (w : List UInt8) (k : Int) : List (List Int) := if isWord w then (if 2 ≤ k ∧ k ≤ 60 then rowsTo w k.toNat w.length else []) else []
theorem powR_len (w : List UInt8) (k : Int) : (powR w k).length ≤ 3600 ∧ sizes (powR w k) ≤ 7200 := by
  unfold powR
  split
  · rename_i hw
    have h60 := isWord_len hw
    split
    · have h := rowsTo_len w k.toNat w.length
      have h2 : w.length * w.length ≤ 60 * 60 := Nat.mul_le_mul h60 h60
      omega
    · simp [sizes]
  · simp [sizes]
theorem powR_row {w : List UInt8} {k : Int} : ∀ r ∈ powR w k, r.length = 2 := by
  unfold powR
  split
  · split
    · intro r hr
      obtain ⟨i, _, hr⟩ := List.mem_flatMap.1 hr
      obtain ⟨m, _, rfl⟩ := List.mem_map.1 hr
      rfl
    · simp
  · simp
end Go.Proofs.Ytbefijbmgmbphaa

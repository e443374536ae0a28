/- Contracts: desks and morphisms as values: new ones, equality, marks. -/
import Derived.Test.YtbefijbmgmbphaaC5
namespace Go.Proofs.Ytbefijbmgmbphaa
open Go
set_option linter.unusedSimpArgs false
set_option linter.unusedVariables false

theorem Own.push {M M' : Mem} {v : Value} {xs : List Value} (h : Own M v xs M') {b : Nat} (hb : M' b = none) (B : Blk) : Own (M.put b B) v xs (M'.put b B) := by
  rcases h with ⟨rfl, rfl, rfl⟩ | ⟨b', c, rfl, hM, hc, rfl⟩
  · exact Own.nil _
  · have hne : b ≠ b' := by rintro rfl; rw [put_same] at hb; cases hb
    refine .inr ⟨b', c, rfl, by rw [put_none]; exact ⟨Ne.symm hne, hM⟩, hc, ?_⟩
    funext i
    simp only [Mem.put]
    by_cases h1 : i = b
    · rw [if_pos h1, if_neg (by rw [h1]; exact hne), if_pos h1]
    · rw [if_neg h1, if_neg h1]
theorem set_is (M : Mem) (b : Nat) (B : Blk) : M.set b B = M.put b B := rfl
/-- Writing another block. -/
theorem Own.other {M M' : Mem} {v : Value} {xs : List Value} {b : Nat} {B0 : Blk} (h : Own M v xs M') (hb : M b = some B0) (B : Blk) : Own (M.put b B) v xs (M'.put b B) := by
  rcases h with ⟨rfl, rfl, rfl⟩ | ⟨b', c, rfl, hM, hc, rfl⟩
  · exact Own.nil _
  · have hne : b ≠ b' := by rintro rfl; rw [hM] at hb; cases hb
    refine .inr ⟨b', c, rfl, by rw [put_none]; exact ⟨Ne.symm hne, hM⟩, hc, ?_⟩
    funext i
    simp only [Mem.put]
    by_cases h1 : i = b
    · rw [if_pos h1, if_neg (by rw [h1]; exact hne), if_pos h1]
    · rw [if_neg h1, if_neg h1]
theorem put_put (M : Mem) (b : Nat) (A B : Blk) : (M.put b A).put b B = M.put b B := by
  funext i; simp only [Mem.put]; split <;> rfl
def deskV (w p : List UInt8) (v : Value) : Value := .agg #[str w, str p, v]
end Go.Proofs.Ytbefijbmgmbphaa

/- Laws: abelian powers. -/
import Derived.Test.YteccbbockkkfbaaC11
namespace Go.Proofs.Yteccbbockkkfbaa
open Go
set_option linter.unusedSimpArgs false
set_option linter.unusedVariables false

theorem law_IsAbelianFree (l : List UInt8) (k : Int) (M : Mem) (R : Value → Mem → Prop) (hl : l.length ≤ 140737488351232) (hk : -9223372036854775808 ≤ k ∧ k ≤ 9223372036854775807) (h : ∀ M', Sub M M' → R (.bool true) M') : Does Try.prog 14 [str l, .int .i64 k] M R := by
  refine does_fn tab_ok Try.func14 rfl (by kernel_rfl) (by kernel_rfl) Try.ntmps14 Try.results14 rfl ?_
  by_cases hz : (1048576 : Int) < l.length
  · simp (disch := omega) [hz]
    exact ret_of (h _ (Sub.refl _))
  · simp (disch := omega) [hz]
    obtain ⟨b, hb⟩ : ∃ b, b = (decide (powC l k = 0) && (powR l k).isEmpty) := ⟨_, rfl⟩
    refine spec_IsAbelianFree l k _ _ (by omega) ?_
    rw [← hb]
    simp (disch := omega) [tup2]
    refine impl_IsAbelianFree l k _ _ (by omega) ?_
    rw [← hb]
    simp (disch := omega) [tup2]
    exact ret_of (h _ (Sub.refl _))
end Go.Proofs.Yteccbbockkkfbaa

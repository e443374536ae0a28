/- Laws: patterns. -/
import Derived.Test.YtdelkgjgcdbipaaC21
namespace Go.Proofs.Ytdelkgjgcdbipaa
open Go
set_option linter.unusedSimpArgs false
set_option linter.unusedVariables false

theorem law_LongestAvoiding (l : List UInt8) (k : Int) (M : Mem) (R : Value → Mem → Prop) (hl : l.length ≤ 140737488351232) (hk : -9223372036854775808 ≤ k ∧ k ≤ 9223372036854775807) (h : ∀ M', Sub M M' → R (.bool true) M') : Does Try.prog 6 [str l, .int .i64 k] M R := by
  refine does_fn tab_ok Try.func6 rfl (by kernel_rfl) (by kernel_rfl) Try.ntmps6 Try.results6 rfl ?_
  by_cases hz : (1048576 : Int) < l.length
  · simp (disch := omega) [hz]
    exact ret_of (h _ (Sub.refl _))
  · simp (disch := omega) [hz]
    obtain ⟨a, ha⟩ : ∃ a, a = longT l k := ⟨_, rfl⟩
    obtain ⟨b, hb⟩ : ∃ b, b = longC l k := ⟨_, rfl⟩
    refine spec_LongestAvoiding l k _ _ (by omega) ?_
    rw [← ha, ← hb]
    simp (disch := omega) [tup2]
    refine impl_LongestAvoiding l k _ _ (by omega) ?_
    rw [← ha, ← hb]
    simp (disch := omega) [tup2]
    exact ret_of (h _ (Sub.refl _))
end Go.Proofs.Ytdelkgjgcdbipaa

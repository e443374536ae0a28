/- Law: sums of factors. -/
import Derived.Test.YtbefijbmgmbphaaC37
import Derived.Test.YtbefijbmgmbphaaC54
namespace Go.Proofs.Ytbefijbmgmbphaa
open Go
set_option linter.unusedSimpArgs false
set_option linter.unusedVariables false

theorem law_SumsOf (l : List UInt8) (m : Int) (M : Mem) (R : Value → Mem → Prop) (hl : l.length ≤ 140737488351232) (hm : -9223372036854775808 ≤ m ∧ m ≤ 9223372036854775807) (h : ∀ M', Sub M M' → R (.bool true) M') : Does Try.prog 7 [str l, .int .i64 m] M R := by
  refine does_fn tab_ok Try.func7 rfl (by kernel_rfl) (by kernel_rfl) Try.ntmps7 Try.results7 rfl ?_
  by_cases hz : (1048576 : Int) < l.length
  · simp (disch := omega) [hz]
    exact ret_of (h _ (Sub.refl _))
  · have hl : l.length ≤ 1099511627776 := by omega
    have hb : (sumsR l m).length ≤ 300 := sumsR_len l m
    have e1 := spec_SumsOf l m
    have e2 := impl_SumsOf l m
    revert e1 e2 hb
    generalize sumsC l m = c
    generalize sumsR l m = zs
    intro hb e1 e2
    have hb' : zs.length ≤ 1099511627776 := by omega
    simp (disch := omega) [hz]
    refine e1 _ _ hl ?_
    intro v1 M1 o1
    simp (disch := omega)
    refine e2 _ _ hl ?_
    intro v2 M2 o2
    simp (disch := omega)
    refine eqInt64S_does v2 v1 zs zs _ _ o2.rd (o1.rd.sub o2.sub) hb' hb' ?_
    simp (disch := omega)
    refine markInt64S_does v2 _ _ _ _ _ o2 (by simp (disch := omega); omega) (by omega) (by omega) ?_
    intro M3 o3
    simp (disch := omega)
    refine heldInt64S_does v2 _ _ _ _ o3.rd (by simp (disch := omega); omega) (by omega) (by omega) ?_
    simp (disch := omega)
    refine e2 _ _ hl ?_
    intro v4 M4 o4
    simp (disch := omega)
    refine eqInt64S_does v4 v1 zs zs _ _ o4.rd ((o1.rd.sub o3.sub).sub o4.sub) hb' hb' ?_
    simp (disch := omega)
    refine heldInt64S_does v2 _ _ _ _ (o3.rd.sub o4.sub) (by simp (disch := omega); omega) (by omega) (by omega) ?_
    simp (disch := omega)
    exact ret_of (h _ (((o1.sub.trans o3.sub)).trans o4.sub))
end Go.Proofs.Ytbefijbmgmbphaa

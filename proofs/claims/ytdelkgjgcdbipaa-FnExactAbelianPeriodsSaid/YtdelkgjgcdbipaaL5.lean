/- Laws: abelian periods. -/
import Derived.Test.YtdelkgjgcdbipaaC19
namespace Go.Proofs.Ytdelkgjgcdbipaa
open Go
set_option linter.unusedSimpArgs false
set_option linter.unusedVariables false

theorem law_AbelianPeriods (l : List UInt8) (M : Mem) (R : Value → Mem → Prop) (hl : l.length ≤ 140737488351232) (h : ∀ M', Sub M M' → R (.bool true) M') : Does Try.prog 14 [str l] M R := by
  refine does_fn tab_ok Try.func14 rfl (by kernel_rfl) (by kernel_rfl) Try.ntmps14 Try.results14 rfl ?_
  by_cases hz : (1048576 : Int) < l.length
  · simp (disch := omega) [hz]
    exact ret_of (h _ (Sub.refl _))
  · have hl : l.length ≤ 1099511627776 := by omega
    have e1 := spec_AbelianPeriods l
    have e2 := impl_AbelianPeriods l
    have hb := perR_len l
    have hr := perR_row (w := l)
    revert e1 e2 hb hr
    generalize wcode l = c
    generalize perR l = rows
    intro e1 e2 hb hr
    have hr' : ∀ r ∈ rows, r.length ≤ 1099511627776 := fun r hm => by rw [hr r hm]; decide
    simp (disch := omega) [hz]
    refine e1 _ _ hl ?_
    intro v1 rs1 N1 M1 r1 o1
    have d1 := (rdSS_of r1 o1)
    simp (disch := omega)
    refine e2 _ _ hl ?_
    intro v2 rs2 N2 M2 r2 o2
    have s2 := r2.sub.trans o2.sub
    simp (disch := omega)
    refine eqInt64SS_does v2 v1 rows rows _ _ (rdSS_of r2 o2) (d1.sub s2) (by omega) (by omega) hr' hr' ?_
    simp (disch := omega)
    refine markInt64SS_does v2 _ _ _ _ _ _ _ r2 o2 (by omega) (by omega) (by omega) (by omega) ?_
    intro N3 M3 r3 o3
    have s3 := r3.sub.trans o3.sub
    simp (disch := omega)
    refine heldInt64SS_does v2 rows _ _ _ (rdSS_of r3 o3) (by omega) (by omega) (by omega) (by omega) ?_
    simp (disch := omega)
    refine e2 _ _ hl ?_
    intro v4 rs4 N4 M4 r4 o4
    have s4 := r4.sub.trans o4.sub
    simp (disch := omega)
    refine eqInt64SS_does v4 v1 rows rows _ _ (rdSS_of r4 o4) ((d1.sub s3).sub s4) (by omega) (by omega) hr' hr' ?_
    simp (disch := omega)
    refine heldInt64SS_does v2 rows _ _ _ ((rdSS_of r3 o3).sub s4) (by omega) (by omega) (by omega) (by omega) ?_
    simp (disch := omega)
    exact ret_of (h _ (((r1.sub.trans o1.sub).trans s3).trans s4))
end Go.Proofs.Ytdelkgjgcdbipaa

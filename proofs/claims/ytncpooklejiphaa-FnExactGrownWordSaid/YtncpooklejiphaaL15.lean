/- Law of one morphism and two numbers: GrownWord. -/
import Derived.Test.YtncpooklejiphaaC35
import Derived.Test.YtncpooklejiphaaL3
namespace Go.Proofs.Ytncpooklejiphaa
open Go
set_option linter.unusedSimpArgs false
set_option linter.unusedVariables false

theorem law_GrownWord (v : Value) (ws : List (List UInt8)) (a n : Int) (M : Mem) (R : Value → Mem → Prop) (hv : Rd M v (strs ws)) (hn : ws.length ≤ 9223372036854775807) (hw : ∀ w ∈ ws, w.length ≤ 9223372036854775807) (ha64 : -9223372036854775808 ≤ a ∧ a ≤ 9223372036854775807) (hk64 : -9223372036854775808 ≤ n ∧ n ≤ 9223372036854775807) (h : ∀ M', Sub M M' → R (.bool true) M') : Does Try.prog 8 [.agg #[v], .int .i64 a, .int .i64 n] M R := by
  refine does_fn tab_ok Try.func8 rfl (by kernel_rfl) (by kernel_rfl) Try.ntmps8 Try.results8 rfl ?_
  obtain ⟨av, c, rfl, ha⟩ := hv.opened
  rw [strs_length] at ha hv ⊢
  simp (disch := omega)
  intro b1 hb1
  have hs1 : Sub M (M.put b1 (.cells true [.slice av ws.length c] 1)) := (Sub.refl M).put hb1 _
  have k1 : (M.put b1 (.cells true [.slice av ws.length c] 1)) b1 = some (.cells true [.slice av ws.length c] 1) := put_same _ _ _
  have hv1 := hv.put hb1 (.cells true [.slice av ws.length c] 1)
  generalize M.put b1 (.cells true [.slice av ws.length c] 1) = N1 at *
  simp (disch := omega) [sub_of k1]
  refine szMorphism_does _ ws 1048576 _ _ hv1 hn hw (by omega) ?_ ?_
  · intro hle
    obtain ⟨p, hp⟩ : ∃ p, p = 1048576 - (ws.length + sumL ws) := ⟨_, rfl⟩
    rw [← hp]
    have hsm : ws.length ≤ 1048576 := by omega
    have hfine : Fine ws := fun w hw => by have := sumL_mem hw; omega
    simp (disch := omega) [sub_of k1]
    refine toMorphism_does _ ws _ _ hv1 hsm ?_
    intro v2 N2 o2
    have k2 := o2.sub _ _ k1
    simp (disch := omega)
    refine spec_GrownWord v2 ws a n _ _ o2.rd hfine (by omega) ?_
    simp (disch := omega) [tup2, sub_of k2]
    refine toMorphism_does _ ws _ _ (hv1.sub o2.sub) hsm ?_
    intro v3 N3 o3
    have k3 := o3.sub _ _ k2
    obtain ⟨a3, c3, rfl, _⟩ := o3.rd.opened
    rw [strs_length] at o3 ⊢
    simp (disch := omega)
    intro b5 hb5
    have hne : b1 ≠ b5 := by rintro rfl; rw [k3] at hb5; cases hb5
    simp (disch := omega)
    refine impl_GrownWord _ ws a n _ _ (o3.rd.put hb5 _) hfine (by omega) ?_
    simp (disch := omega) [tup2]
    have k4 : (N3.put b5 (.cells true [.slice a3 ws.length c3] 1)) b1 = some (.cells true [.slice av ws.length c] 1) := by rw [put_ne _ _ hne]; exact k3
    have hv4 := (((hv1.sub o2.sub).sub o3.sub).put hb5 (.cells true [.slice a3 ws.length c3] 1))
    have o4 := o3.rd.put hb5 (.cells true [.slice a3 ws.length c3] 1)
    have s4 := (((hs1.trans o2.sub).trans o3.sub).putN hb5 (.cells true [.slice a3 ws.length c3] 1))
    have k5 : (N3.put b5 (.cells true [.slice a3 ws.length c3] 1)) b5 = some (.cells true [.slice a3 ws.length c3] 1) := put_same _ _ _
    generalize N3.put b5 (.cells true [.slice a3 ws.length c3] 1) = N4 at *
    refine draws_to 2 1 tab_ok (by kernel_rfl) (by kernel_rfl) (by rfl) ?_
    simp (disch := omega) [sub_of k5, sub_of k4]
    refine toMorphism_does _ ws _ _ hv4 hsm ?_
    intro v6 N6 o6
    simp (disch := omega)
    refine ⟨o6.sub, ?_⟩
    refine eqMorphism_does _ _ ws ws _ _ (o4.sub o6.sub) o6.rd (by omega) (by omega) ?_
    simp (disch := omega)
    exact ret_of (h _ (s4.trans o6.sub))
  · intro hlt
    simp (disch := omega)
    exact ret_sub hs1 (h _ (Sub.refl _))
end Go.Proofs.Ytncpooklejiphaa

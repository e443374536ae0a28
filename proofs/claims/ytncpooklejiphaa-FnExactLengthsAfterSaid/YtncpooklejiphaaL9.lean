/- Laws of one morphism and numbers whose results are lists: LengthsAfter. -/
import Derived.Test.YtncpooklejiphaaC24
import Derived.Test.YtncpooklejiphaaL3
namespace Go.Proofs.Ytncpooklejiphaa
open Go
set_option linter.unusedSimpArgs false
set_option linter.unusedVariables false

theorem natsV_ints (l : List Nat) : natsV l = ints (l.map fun (n : Nat) => (n : Int)) := by simp [natsV, ints]
theorem afterR_len (ws : List (List UInt8)) (a k : Int) : (afterR ws a k).length ≤ 21 := by
  unfold afterR
  by_cases h0 : codeL ws a k 20 = 0
  · obtain ⟨_, _, _, _, h⟩ := codeL_zero h0
    rw [if_pos h0]
    split
    · rw [outS_length]; omega
    · simp
  · rw [if_neg h0]; simp
theorem law_LengthsAfter (v : Value) (ws : List (List UInt8)) (a k : Int) (M : Mem) (R : Value → Mem → Prop) (hv : Rd M v (strs ws)) (hn : ws.length ≤ 9223372036854775807) (hw : ∀ w ∈ ws, w.length ≤ 9223372036854775807) (ha64 : -9223372036854775808 ≤ a ∧ a ≤ 9223372036854775807) (hk64 : -9223372036854775808 ≤ k ∧ k ≤ 9223372036854775807) (h : ∀ M', Sub M M' → R (.bool true) M') : Does Try.prog 5 [.agg #[v], .int .i64 a, .int .i64 k] M R := by
  refine does_fn tab_ok Try.func5 rfl (by kernel_rfl) (by kernel_rfl) Try.ntmps5 Try.results5 rfl ?_
  obtain ⟨av, c, rfl, ha⟩ := hv.opened
  rw [strs_length] at ha hv ⊢
  simp (disch := omega)
  intro b1 hb1
  have hs1 : Sub M (M.put b1 (.cells true [.slice av ws.length c] 1)) := (Sub.refl M).put hb1 _
  have k1 : (M.put b1 (.cells true [.slice av ws.length c] 1)) b1 = some (.cells true [.slice av ws.length c] 1) := put_same _ _ _
  have hv1 := hv.put hb1 (.cells true [.slice av ws.length c] 1)
  generalize M.put b1 (.cells true [.slice av ws.length c] 1) = N1 at *
  simp (disch := omega) [sub_of k1]
  refine szMorphism_does _ ws 1048576 _ _ hv1 hn hw (by omega) ?_ ?_
  · intro hle
    obtain ⟨p, hp⟩ : ∃ p, p = 1048576 - (ws.length + sumL ws) := ⟨_, rfl⟩
    rw [← hp]
    have hsm : ws.length ≤ 1048576 := by omega
    have hfine : Fine ws := fun w hw => by have := sumL_mem hw; omega
    have e1 := fun v M R h1 => spec_LengthsAfter v ws a k M R h1 hfine (by omega)
    have e2 := fun v M R h1 => impl_LengthsAfter v ws a k M R h1 hfine (by omega)
    have hlen : ((afterR ws a k).map fun (n : Nat) => (n : Int)).length ≤ 21 := by rw [List.length_map]; exact afterR_len ws a k
    rw [natsV_ints] at e1 e2
    generalize afterC ws a k = code at *
    generalize (afterR ws a k).map (fun (n : Nat) => (n : Int)) = zs at *
    have hb : zs.length ≤ 1099511627776 := by omega
    simp (disch := omega) [sub_of k1]
    refine toMorphism_does _ ws _ _ hv1 hsm ?_
    intro v2 N2 o2
    have k2 := o2.sub _ _ k1
    simp (disch := omega)
    refine e1 v2 _ _ o2.rd ?_
    intro g1 B1 p1
    have d1 := p1.rd
    have t1 := o2.sub.trans p1.sub
    have k2' := t1 _ _ k1
    simp (disch := omega) [sub_of k2']
    refine toMorphism_does _ ws _ _ (hv1.sub t1) hsm ?_
    intro v3 N3 o3
    have t3 := t1.trans o3.sub
    have k3 := t3 _ _ k1
    obtain ⟨a3, c3, rfl, _⟩ := o3.rd.opened
    rw [strs_length] at o3 ⊢
    simp (disch := omega)
    intro b5 hb5
    have hne : b1 ≠ b5 := by rintro rfl; rw [k3] at hb5; cases hb5
    have s5 := (Sub.refl N3).put hb5 (.cells true [.slice a3 ws.length c3] 1)
    have k5 : (N3.put b5 (.cells true [.slice a3 ws.length c3] 1)) b5 = some (.cells true [.slice a3 ws.length c3] 1) := put_same _ _ _
    have hb5B : B1 b5 = none := none_of o3.sub hb5
    have o3' := o3.push hb5 (.cells true [.slice a3 ws.length c3] 1)
    have sB : Sub B1 (B1.put b5 (.cells true [.slice a3 ws.length c3] 1)) := (Sub.refl B1).put hb5B _
    simp (disch := omega)
    generalize B1.put b5 (.cells true [.slice a3 ws.length c3] 1) = N0 at *
    generalize N3.put b5 (.cells true [.slice a3 ws.length c3] 1) = N4 at *
    refine e2 _ _ _ o3'.rd ?_
    intro g2 B2 p2
    have t4 := s5.trans p2.sub
    have k4 := (t3.trans t4) _ _ k1
    have k6 := p2.sub _ _ k5
    simp (disch := omega)
    refine eqInt64S_does g2 g1 zs zs _ _ p2.rd (d1.sub (o3.sub.trans t4)) hb hb ?_
    simp (disch := omega)
    refine draws_to 2 1 tab_ok (by kernel_rfl) (by kernel_rfl) (by rfl) ?_
    simp (disch := omega) [sub_of k6, sub_of k4]
    refine toMorphism_does _ ws _ _ (hv1.sub (t3.trans t4)) hsm ?_
    intro v6 N6 o6
    simp (disch := omega)
    refine ⟨o6.sub, ?_⟩
    refine eqMorphism_does _ _ ws ws _ _ (o3'.rd.sub (p2.sub.trans o6.sub)) o6.rd (by omega) (by omega) ?_
    obtain ⟨A', p5, sA⟩ := o6.over p2
    have k7 := o6.sub _ _ k6
    simp (disch := omega) [sub_of k7]
    refine markMorphism_on _ (strs ws) 1 N0 N4 _ _ o3' (sA.trans p5.sub) (by rw [strs_length]; omega) (by omega) (by omega) ?_
    intro f tf
    have p6 := p5.turn tf sA
    have sN0 := tf.keep sA
    have dB := d1.sub (sB.trans sN0)
    have kk1 := (t1.trans (sB.trans sN0)) _ _ k1
    rw [strs_length]
    generalize f A' = F0 at *
    generalize f N6 = F6 at *
    simp (disch := omega)
    refine eqInt64S_does g2 g1 zs zs _ _ p6.rd (dB.sub p6.sub) hb hb ?_
    simp (disch := omega)
    refine markInt64S_does g2 _ _ _ _ _ p6 (by simp (disch := omega); omega) (by omega) (by omega) ?_
    intro Y p7
    have k8 := p7.sub _ _ kk1
    simp (disch := omega)
    refine heldInt64S_does g2 _ _ _ _ p7.rd (by simp (disch := omega); omega) (by omega) (by omega) ?_
    simp (disch := omega) [sub_of k8]
    refine toMorphism_does _ ws _ _ (hv1.sub (t1.trans (sB.trans (sN0.trans p7.sub)))) hsm ?_
    intro v8 N8 o8
    simp (disch := omega)
    refine e2 _ _ _ o8.rd ?_
    intro g9 B9 p9
    have s9 := o8.sub.trans p9.sub
    simp (disch := omega)
    refine eqInt64S_does g9 g1 zs zs _ _ p9.rd (dB.sub (p7.sub.trans s9)) hb hb ?_
    simp (disch := omega)
    refine heldInt64S_does g2 _ _ _ _ (p7.rd.sub s9) (by simp (disch := omega); omega) (by omega) (by omega) ?_
    simp (disch := omega)
    exact ret_of (h _ (((hs1.trans t1).trans (sB.trans sN0)).trans (p7.sub.trans s9)))
  · intro hlt
    simp (disch := omega)
    exact ret_sub hs1 (h _ (Sub.refl _))
end Go.Proofs.Ytncpooklejiphaa

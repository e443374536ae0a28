/- Contracts: morphisms out of texts, of both; the law. -/
import Derived.Test.YticejlplbibegaaDoorC85
import Derived.Test.YticejlplbibegaaDoorC23
namespace Go.Proofs.YticejlplbibegaaDoor
open Go
set_option linter.unusedSimpArgs false
set_option linter.unusedVariables false

def pmL (l : List UInt8) : List (List UInt8) := if isMor (spR 44 l) then spR 44 l else []
def pmC (l : List UInt8) : Int := if isMor (spR 44 l) then 0 else 6
theorem pmL_len (l : List UInt8) : (pmL l).length ≤ 5 := by
  unfold pmL
  split
  · rename_i h
    unfold isMor at h
    rw [Bool.and_eq_true, decide_eq_true_eq] at h
    exact h.1.2
  · exact Nat.zero_le _
theorem impl_ParseMorphism (l : List UInt8) (M : Mem) (R : Value → Mem → Prop) (hl : l.length ≤ 1000000000) (h : ∀ v M', Own M v (strs (pmL l)) M' → R (.tuple #[.agg #[v], .int .i64 (pmC l)]) M') : Does Tryd.prog 7 [str l] M R := by
  have hf := spR_fine 44 l
  have hln := spR_len 44 l
  have hcl : l.count 44 ≤ l.length := List.count_le_length
  refine does_fn tab_ok Tryd.func7 rfl (by kernel_rfl) (by kernel_rfl) Tryd.ntmps7 Tryd.results7 rfl ?_
  simp (disch := omega)
  intro b2 hb2
  have s2 : Sub M (M.put b2 (.cells true [.slice none 0 0] 1)) := (Sub.refl M).put hb2 _
  have k2 : (M.put b2 (.cells true [.slice none 0 0] 1)) b2 = some (.cells true [.slice none 0 0] 1) := put_same _ _ _
  simp (disch := omega)
  generalize M.put b2 (.cells true [.slice none 0 0] 1) = M0 at *
  refine splitS_does l 44 _ _ (by omega) ?_
  intro v M1 o1
  obtain ⟨a, c, hv, _⟩ := o1.rd.opened
  rw [strs_length] at hv
  subst hv
  simp (disch := omega)
  intro b4 hb4
  have k2' := o1.sub _ _ k2
  have hne : b2 ≠ b4 := by rintro rfl; rw [hb4] at k2'; cases k2'
  have s1 := o1.sub
  have r4 := o1.rd.put hb4 (.cells true [.slice a (spR 44 l).length c] 1)
  have k4 : (M1.put b4 (.cells true [.slice a (spR 44 l).length c] 1)) b2 = some (.cells true [.slice none 0 0] 1) := by rw [put_ne _ _ hne]; exact k2'
  have k5 : (M1.put b4 (.cells true [.slice a (spR 44 l).length c] 1)) b4 = some (.cells true [.slice a (spR 44 l).length c] 1) := put_same _ _ _
  have s4 := (Sub.refl M1).put hb4 (.cells true [.slice a (spR 44 l).length c] 1)
  simp (disch := omega) [set_is, put_put]
  generalize M1.put b4 (.cells true [.slice a (spR 44 l).length c] 1) = M4 at *
  refine isMorphism_does _ (spR 44 l) _ _ r4 (fun w hw => by have := hf w hw; omega) (by omega) ?_
  unfold pmL pmC at h
  have sN : ∀ X, Sub M (M4.put b2 X) := fun X j B hB => by
    have : j ≠ b2 := by rintro rfl; rw [hb2] at hB; cases hB
    rw [put_ne _ _ this]
    exact s4 _ _ (s1 _ _ (s2 _ _ hB))
  cases hm : isMor (spR 44 l)
  · rw [hm] at h
    simp (disch := omega) [k4, set_is]
    exact ret_sub (sN _) (h _ _ (Own.nil M))
  · rw [hm, if_pos rfl, if_pos rfl] at h
    simp (disch := omega) [k4, get_of k5, sub_of k5, set_is]
    have o5 := o1.other k2 (.cells true [.slice a (spR 44 l).length c] 1)
    obtain ⟨M5, o6, s6⟩ := o5.base (M := M) (by
      intro j B hB
      have : j ≠ b2 := by rintro rfl; rw [hb2] at hB; cases hB
      rw [put_ne _ _ this]
      exact s2 _ _ hB)
    refine ret_sub ?_ (h _ M5 o6)
    exact s6.trans (s4.both _ _)
theorem spec_ParseMorphism (l : List UInt8) (M : Mem) (R : Value → Mem → Prop) (hl : l.length ≤ 1000000000) (h : ∀ v M', Own M v (strs (pmL l)) M' → R (.tuple #[.agg #[v], .int .i64 (pmC l)]) M') : Does Tryd.prog 6 [str l] M R := by
  have hf := spR_fine 44 l
  have hln := spR_len 44 l
  have hcl : l.count 44 ≤ l.length := List.count_le_length
  refine does_fn tab_ok Tryd.func6 rfl (by kernel_rfl) (by kernel_rfl) Tryd.ntmps6 Tryd.results6 rfl ?_
  simp (disch := omega)
  intro b2 hb2
  have s2 : Sub M (M.put b2 (.cells true [.slice none 0 0] 1)) := (Sub.refl M).put hb2 _
  have k2 : (M.put b2 (.cells true [.slice none 0 0] 1)) b2 = some (.cells true [.slice none 0 0] 1) := put_same _ _ _
  simp (disch := omega)
  generalize M.put b2 (.cells true [.slice none 0 0] 1) = M0 at *
  refine split_does l 44 _ _ (by omega) ?_
  rw [splL_spR]; intro v M1 o1
  obtain ⟨a, c, hv, _⟩ := o1.rd.opened
  rw [strs_length] at hv
  subst hv
  simp (disch := omega)
  intro b4 hb4
  have k2' := o1.sub _ _ k2
  have hne : b2 ≠ b4 := by rintro rfl; rw [hb4] at k2'; cases k2'
  have s1 := o1.sub
  have r4 := o1.rd.put hb4 (.cells true [.slice a (spR 44 l).length c] 1)
  have k4 : (M1.put b4 (.cells true [.slice a (spR 44 l).length c] 1)) b2 = some (.cells true [.slice none 0 0] 1) := by rw [put_ne _ _ hne]; exact k2'
  have k5 : (M1.put b4 (.cells true [.slice a (spR 44 l).length c] 1)) b4 = some (.cells true [.slice a (spR 44 l).length c] 1) := put_same _ _ _
  have s4 := (Sub.refl M1).put hb4 (.cells true [.slice a (spR 44 l).length c] 1)
  simp (disch := omega) [set_is, put_put]
  generalize M1.put b4 (.cells true [.slice a (spR 44 l).length c] 1) = M4 at *
  refine l06Is_does _ (spR 44 l) _ _ r4 (fun w hw => by have := hf w hw; omega) (by omega) ?_
  unfold pmL pmC at h
  have sN : ∀ X, Sub M (M4.put b2 X) := fun X j B hB => by
    have : j ≠ b2 := by rintro rfl; rw [hb2] at hB; cases hB
    rw [put_ne _ _ this]
    exact s4 _ _ (s1 _ _ (s2 _ _ hB))
  cases hm : isMor (spR 44 l)
  · rw [hm] at h
    simp (disch := omega) [k4, set_is]
    exact ret_sub (sN _) (h _ _ (Own.nil M))
  · rw [hm, if_pos rfl, if_pos rfl] at h
    simp (disch := omega) [k4, get_of k5, sub_of k5, set_is]
    have o5 := o1.other k2 (.cells true [.slice a (spR 44 l).length c] 1)
    obtain ⟨M5, o6, s6⟩ := o5.base (M := M) (by
      intro j B hB
      have : j ≠ b2 := by rintro rfl; rw [hb2] at hB; cases hB
      rw [put_ne _ _ this]
      exact s2 _ _ hB)
    refine ret_sub ?_ (h _ M5 o6)
    exact s6.trans (s4.both _ _)
theorem law_ParseMorphism (l : List UInt8) (M : Mem) (R : Value → Mem → Prop) (hl : l.length ≤ 140737488351232) (h : ∀ M', Sub M M' → R (.bool true) M') : Does Tryd.prog 3 [str l] M R := by
  refine does_fn tab_ok Tryd.func3 rfl (by kernel_rfl) (by kernel_rfl) Tryd.ntmps3 Tryd.results3 rfl ?_
  by_cases hz : (1048576 : Int) < l.length
  · simp (disch := omega) [hz]
    exact ret_of (h _ (Sub.refl _))
  · have hl2 : l.length ≤ 1048576 := by omega
    have hW := pmL_len l
    have e1 := fun (M : Mem) (R : Value → Mem → Prop) (h : ∀ v M', Own M v (strs (pmL l)) M' → R (.tuple #[.agg #[v], .int .i64 (pmC l)]) M') => spec_ParseMorphism l M R (by omega) h
    have e2 := fun (M : Mem) (R : Value → Mem → Prop) (h : ∀ v M', Own M v (strs (pmL l)) M' → R (.tuple #[.agg #[v], .int .i64 (pmC l)]) M') => impl_ParseMorphism l M R (by omega) h
    simp (disch := omega) [hz]
    revert e1 e2 hW
    generalize pmL l = W
    generalize pmC l = c
    intro hW e1 e2
    refine e1 _ _ ?_
    intro v0 M1 o1
    obtain ⟨a1, c1, hv, _⟩ := o1.rd.opened
    rw [strs_length] at hv
    subst hv
    simp (disch := omega)
    intro b3 hb3
    have r1 := o1.rd.put hb3 (.cells true [.slice a1 W.length c1] 1)
    have s1 := o1.sub.putN hb3 (.cells true [.slice a1 W.length c1] 1)
    have k3 : (M1.put b3 (.cells true [.slice a1 W.length c1] 1)) b3 = some (.cells true [.slice a1 W.length c1] 1) := put_same _ _ _
    simp (disch := omega) [set_is, put_put]
    generalize M1.put b3 (.cells true [.slice a1 W.length c1] 1) = N1 at *
    refine e2 _ _ ?_
    intro v1 M2 o2
    obtain ⟨a2, c2, hv, _⟩ := o2.rd.opened
    rw [strs_length] at hv
    subst hv
    simp (disch := omega)
    intro b5 hb5
    have o2' := o2.push hb5 (.cells true [.slice a2 W.length c2] 1)
    have k3' := o2'.sub _ _ ((Sub.refl N1).put (none_of o2.sub hb5) (.cells true [.slice a2 W.length c2] 1) _ _ k3)
    have r1' := (r1.sub ((Sub.refl N1).put (none_of o2.sub hb5) (.cells true [.slice a2 W.length c2] 1))).sub o2'.sub
    have sN1 := (Sub.refl N1).put (none_of o2.sub hb5) (.cells true [.slice a2 W.length c2] 1)
    have k5 : (N1.put b5 (.cells true [.slice a2 W.length c2] 1)) b5 = some (.cells true [.slice a2 W.length c2] 1) := put_same _ _ _
    have k3n := sN1 _ _ k3
    have r1n := r1.sub sN1
    simp (disch := omega) [set_is, put_put]
    generalize N1.put b5 (.cells true [.slice a2 W.length c2] 1) = N2 at *
    generalize M2.put b5 (.cells true [.slice a2 W.length c2] 1) = N3 at *
    have k5' := o2'.sub _ _ k5
    simp (disch := omega) [sub_of k3', sub_of k5']
    refine eqMorphism_does _ _ W W _ _ o2'.rd r1' (by omega) (by omega) ?_
    simp (disch := omega) [sub_of k5']
    refine markMorphism_own _ (strs W) 1 N2 N3 _ o2' (by rw [strs_length]; omega) (by omega) (by omega) ?_
    intro N4 o4
    have k5'' := o4.sub _ _ k5
    have k3'' := o4.sub _ _ k3n
    have r1'' := r1n.sub o4.sub
    rw [strs_length] at o4 ⊢
    simp (disch := omega) [sub_of k5'']
    refine heldMorphism_does _ W.length 1 _ _ o4.rd (by omega) (by omega) (by omega) ?_
    simp (disch := omega)
    refine e2 _ _ ?_
    intro v2 M5 o5
    obtain ⟨a3, c3, hv, _⟩ := o5.rd.opened
    rw [strs_length] at hv
    subst hv
    simp (disch := omega)
    intro b9 hb9
    have s45 := o5.sub.putN hb9 (.cells true [.slice a3 W.length c3] 1)
    have r5 := o5.rd.put hb9 (.cells true [.slice a3 W.length c3] 1)
    have k9 : (M5.put b9 (.cells true [.slice a3 W.length c3] 1)) b9 = some (.cells true [.slice a3 W.length c3] 1) := put_same _ _ _
    simp (disch := omega) [set_is, put_put]
    generalize M5.put b9 (.cells true [.slice a3 W.length c3] 1) = N5 at *
    have q3 := s45 _ _ k3''
    have q5 := s45 _ _ k5''
    simp (disch := omega) [sub_of q3, sub_of k9]
    refine eqMorphism_does _ _ W W _ _ r5 (r1''.sub s45) (by omega) (by omega) ?_
    simp (disch := omega) [sub_of q5]
    refine heldMorphism_does _ W.length 1 _ _ (o4.rd.sub s45) (by omega) (by omega) (by omega) ?_
    simp (disch := omega)
    exact ret_of (h _ (((s1.trans sN1).trans o4.sub).trans s45))
end Go.Proofs.YticejlplbibegaaDoor

/- Contracts: morphisms out of texts, of both; the law. -/
import Derived.Test.YticejlplbibegaaGreatDoorC85
import Derived.Test.YticejlplbibegaaGreatDoorC23
namespace Go.Proofs.YticejlplbibegaaGreatDoor
open Go
set_option linter.unusedSimpArgs false
set_option linter.unusedVariables false

def pmL (l : List UInt8) : List (List UInt8) := if isMor (spR 44 l) then spR 44 l else []
def pmC (l : List UInt8) : Int := if isMor (spR 44 l) then 0 else 6
theorem pmL_len (l : List UInt8) : (pmL l).length ≤ 5 := by
  unfold pmL
  split
  · rename_i h
    unfold isMor at h
    rw [Bool.and_eq_true, decide_eq_true_eq] at h
    exact h.1.2
  · exact Nat.zero_le _
theorem impl_ParseMorphism (l : List UInt8) (M : Mem) (R : Value → Mem → Prop) (hl : l.length ≤ 1000000000) (h : ∀ v M', Own M v (strs (pmL l)) M' → R (.tuple #[.agg #[v], .int .i64 (pmC l)]) M') : Does Tryz.prog 20 [str l] M R := by
  have hf := spR_fine 44 l
  have hln := spR_len 44 l
  have hcl : l.count 44 ≤ l.length := List.count_le_length
  refine does_fn tab_ok Tryz.func20 rfl (by kernel_rfl) (by kernel_rfl) Tryz.ntmps20 Tryz.results20 rfl ?_
  simp (disch := omega)
  intro b2 hb2
  have s2 : Sub M (M.put b2 (.cells true [.slice none 0 0] 1)) := (Sub.refl M).put hb2 _
  have k2 : (M.put b2 (.cells true [.slice none 0 0] 1)) b2 = some (.cells true [.slice none 0 0] 1) := put_same _ _ _
  simp (disch := omega)
  generalize M.put b2 (.cells true [.slice none 0 0] 1) = M0 at *
  refine splitS_does l 44 _ _ (by omega) ?_
  intro v M1 o1
  obtain ⟨a, c, hv, _⟩ := o1.rd.opened
  rw [strs_length] at hv
  subst hv
  simp (disch := omega)
  intro b4 hb4
  have k2' := o1.sub _ _ k2
  have hne : b2 ≠ b4 := by rintro rfl; rw [hb4] at k2'; cases k2'
  have s1 := o1.sub
  have r4 := o1.rd.put hb4 (.cells true [.slice a (spR 44 l).length c] 1)
  have k4 : (M1.put b4 (.cells true [.slice a (spR 44 l).length c] 1)) b2 = some (.cells true [.slice none 0 0] 1) := by rw [put_ne _ _ hne]; exact k2'
  have k5 : (M1.put b4 (.cells true [.slice a (spR 44 l).length c] 1)) b4 = some (.cells true [.slice a (spR 44 l).length c] 1) := put_same _ _ _
  have s4 := (Sub.refl M1).put hb4 (.cells true [.slice a (spR 44 l).length c] 1)
  simp (disch := omega) [set_is, put_put]
  generalize M1.put b4 (.cells true [.slice a (spR 44 l).length c] 1) = M4 at *
  refine isMorphism_does _ (spR 44 l) _ _ r4 (fun w hw => by have := hf w hw; omega) (by omega) ?_
  unfold pmL pmC at h
  have sN : ∀ X, Sub M (M4.put b2 X) := fun X j B hB => by
    have : j ≠ b2 := by rintro rfl; rw [hb2] at hB; cases hB
    rw [put_ne _ _ this]
    exact s4 _ _ (s1 _ _ (s2 _ _ hB))
  cases hm : isMor (spR 44 l)
  · rw [hm] at h
    simp (disch := omega) [k4, set_is]
    exact ret_sub (sN _) (h _ _ (Own.nil M))
  · rw [hm, if_pos rfl, if_pos rfl] at h
    simp (disch := omega) [k4, get_of k5, sub_of k5, set_is]
    have o5 := o1.other k2 (.cells true [.slice a (spR 44 l).length c] 1)
    obtain ⟨M5, o6, s6⟩ := o5.base (M := M) (by
      intro j B hB
      have : j ≠ b2 := by rintro rfl; rw [hb2] at hB; cases hB
      rw [put_ne _ _ this]
      exact s2 _ _ hB)
    refine ret_sub ?_ (h _ M5 o6)
    exact s6.trans (s4.both _ _)
theorem spec_ParseMorphism (l : List UInt8) (M : Mem) (R : Value → Mem → Prop) (hl : l.length ≤ 1000000000) (h : ∀ v M', Own M v (strs (pmL l)) M' → R (.tuple #[.agg #[v], .int .i64 (pmC l)]) M') : Does Tryz.prog 21 [str l] M R := by
  have hf := spR_fine 44 l
  have hln := spR_len 44 l
  have hcl : l.count 44 ≤ l.length := List.count_le_length
  refine does_fn tab_ok Tryz.func21 rfl (by kernel_rfl) (by kernel_rfl) Tryz.ntmps21 Tryz.results21 rfl ?_
  simp (disch := omega)
  intro b2 hb2
  have s2 : Sub M (M.put b2 (.cells true [.slice none 0 0] 1)) := (Sub.refl M).put hb2 _
  have k2 : (M.put b2 (.cells true [.slice none 0 0] 1)) b2 = some (.cells true [.slice none 0 0] 1) := put_same _ _ _
  simp (disch := omega)
  generalize M.put b2 (.cells true [.slice none 0 0] 1) = M0 at *
  refine split_does l 44 _ _ (by omega) ?_
  rw [splL_spR]; intro v M1 o1
  obtain ⟨a, c, hv, _⟩ := o1.rd.opened
  rw [strs_length] at hv
  subst hv
  simp (disch := omega)
  intro b4 hb4
  have k2' := o1.sub _ _ k2
  have hne : b2 ≠ b4 := by rintro rfl; rw [hb4] at k2'; cases k2'
  have s1 := o1.sub
  have r4 := o1.rd.put hb4 (.cells true [.slice a (spR 44 l).length c] 1)
  have k4 : (M1.put b4 (.cells true [.slice a (spR 44 l).length c] 1)) b2 = some (.cells true [.slice none 0 0] 1) := by rw [put_ne _ _ hne]; exact k2'
  have k5 : (M1.put b4 (.cells true [.slice a (spR 44 l).length c] 1)) b4 = some (.cells true [.slice a (spR 44 l).length c] 1) := put_same _ _ _
  have s4 := (Sub.refl M1).put hb4 (.cells true [.slice a (spR 44 l).length c] 1)
  simp (disch := omega) [set_is, put_put]
  generalize M1.put b4 (.cells true [.slice a (spR 44 l).length c] 1) = M4 at *
  refine l06Is_does _ (spR 44 l) _ _ r4 (fun w hw => by have := hf w hw; omega) (by omega) ?_
  unfold pmL pmC at h
  have sN : ∀ X, Sub M (M4.put b2 X) := fun X j B hB => by
    have : j ≠ b2 := by rintro rfl; rw [hb2] at hB; cases hB
    rw [put_ne _ _ this]
    exact s4 _ _ (s1 _ _ (s2 _ _ hB))
  cases hm : isMor (spR 44 l)
  · rw [hm] at h
    simp (disch := omega) [k4, set_is]
    exact ret_sub (sN _) (h _ _ (Own.nil M))
  · rw [hm, if_pos rfl, if_pos rfl] at h
    simp (disch := omega) [k4, get_of k5, sub_of k5, set_is]
    have o5 := o1.other k2 (.cells true [.slice a (spR 44 l).length c] 1)
    obtain ⟨M5, o6, s6⟩ := o5.base (M := M) (by
      intro j B hB
      have : j ≠ b2 := by rintro rfl; rw [hb2] at hB; cases hB
      rw [put_ne _ _ this]
      exact s2 _ _ hB)
    refine ret_sub ?_ (h _ M5 o6)
    exact s6.trans (s4.both _ _)
end Go.Proofs.YticejlplbibegaaGreatDoor

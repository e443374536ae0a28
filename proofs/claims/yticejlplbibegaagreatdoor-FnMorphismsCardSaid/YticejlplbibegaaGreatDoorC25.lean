/- Contracts: composed morphisms. -/
import Derived.Test.YticejlplbibegaaGreatDoorC20
import Derived.Test.YticejlplbibegaaGreatDoorC23
import Derived.Test.YticejlplbibegaaGreatDoorEB
namespace Go.Proofs.YticejlplbibegaaGreatDoor
open Go
set_option linter.unusedSimpArgs false
set_option linter.unusedVariables false

theorem Own.flat {M M' : Mem} {v : Value} {xs : List Value} (o : Own M v xs M') : flatV v = true := by
  rcases o with ⟨rfl, _, _⟩ | ⟨b, c, rfl, _, _, _⟩ <;> rfl
/-- Are the first i images short enough? -/
def shortTo (ws us : List (List UInt8)) (i : Nat) : Bool := (us.take i).all fun u => decide ((imgOf ws u).length ≤ 12)
def compC (ws us : List (List UInt8)) : Int := if isMor ws && isMor us then (if ws.length = us.length then (if shortTo ws us us.length then 0 else 3) else 2) else 1
def compW (ws us : List (List UInt8)) : List (List UInt8) := if compC ws us = 0 then us.map (imgOf ws) else []
theorem shortTo_succ {ws us : List (List UInt8)} {i : Nat} (h : i < us.length) : shortTo ws us (i + 1) = (shortTo ws us i && decide ((imgOf ws us[i]).length ≤ 12)) := by
  unfold shortTo
  rw [take_snoc us h, List.all_append]; simp
theorem shortTo_no {ws us : List (List UInt8)} {i : Nat} (h : i < us.length) (hb : ¬ (imgOf ws us[i]).length ≤ 12) : shortTo ws us us.length = false := by
  cases hh : shortTo ws us us.length with
  | false => rfl
  | true =>
    unfold shortTo at hh
    rw [List.take_length] at hh
    have := List.all_eq_true.1 hh _ (List.getElem_mem h)
    rw [decide_eq_true_eq] at this
    exact absurd this hb
theorem map_snoc {ws us : List (List UInt8)} {i : Nat} (h : i < us.length) : (us.map (imgOf ws)).take (i + 1) = (us.map (imgOf ws)).take i ++ [imgOf ws us[i]] := by
  rw [take_snoc (us.map (imgOf ws)) (by rw [List.length_map]; exact h)]; simp
def MorR (c : Int) (xs : List (List UInt8)) (M : Mem) (R : Value → Mem → Prop) : Prop := ∀ v M', Own M v (strs xs) M' → R (.tuple #[.agg #[v], .int .i64 c]) M'
theorem impl_ComposeMorphisms (v u : Value) (ws us : List (List UInt8)) (M : Mem) (R : Value → Mem → Prop) (hv : Rd M v (strs ws)) (hf : Fine ws) (hn : ws.length ≤ 1099511627776) (hu : Rd M u (strs us)) (hfu : Fine us) (hnu : us.length ≤ 1099511627776) (h : MorR (compC ws us) (compW ws us) M R) : Does Tryz.prog 14 [.agg #[v], .agg #[u]] M R := by
  refine does_fn tab_ok Tryz.func14 rfl (by kernel_rfl) (by kernel_rfl) Tryz.ntmps14 Tryz.results14 rfl ?_
  obtain ⟨a, c, rfl, ha⟩ := hv.opened
  obtain ⟨a', c', rfl, ha'⟩ := hu.opened
  rw [strs_length] at ha ha' hv hu ⊢
  rw [strs_length]
  simp (disch := omega)
  intro b2 hb2
  simp (disch := omega)
  intro b3 hb3
  simp (disch := omega)
  intro b4 hb4
  have n3 := hb3
  have n4 := hb4
  rw [put_none] at n3
  rw [put_none, put_none] at n4
  have s3 : Sub M ((M.put b2 (.cells true [.slice a ws.length c] 1)).put b3 (.cells true [.slice a' us.length c'] 1)) := ((Sub.refl M).put hb2 _).putN hb3 _
  have k2 : ((M.put b2 (.cells true [.slice a ws.length c] 1)).put b3 (.cells true [.slice a' us.length c'] 1)) b2 = some (.cells true [.slice a ws.length c] 1) := by rw [put_ne _ _ (Ne.symm n3.1)]; exact put_same _ _ _
  have k3 : ((M.put b2 (.cells true [.slice a ws.length c] 1)).put b3 (.cells true [.slice a' us.length c'] 1)) b3 = some (.cells true [.slice a' us.length c'] 1) := put_same _ _ _
  have hv3 := hv.sub s3
  have hu3 := hu.sub s3
  simp (disch := omega) [n3.1, Ne.symm n3.1, n4.1, Ne.symm n4.1, n4.2.1, Ne.symm n4.2.1]
  generalize (M.put b2 (.cells true [.slice a ws.length c] 1)).put b3 (.cells true [.slice a' us.length c'] 1) = N1 at *
  have m2 : ∀ X, (N1.put b4 X) b2 = some (.cells true [.slice a ws.length c] 1) := fun X => by rw [put_ne _ _ (Ne.symm n4.2.1)]; exact k2
  have m3 : ∀ X, (N1.put b4 X) b3 = some (.cells true [.slice a' us.length c'] 1) := fun X => by rw [put_ne _ _ (Ne.symm n4.1)]; exact k3
  have s4 : ∀ X, Sub M (N1.put b4 X) := fun X => s3.putN hb4 X
  refine isMorphism_does _ ws _ _ (hv3.put hb4 _) hf hn ?_
  unfold compC at h
  cases hm : isMor ws
  · rw [hm, Bool.false_and] at h
    have hc0 : compW ws us = [] := by unfold compW compC; rw [hm]; rfl
    rw [hc0] at h
    simp (disch := omega)
    exact ret_sub (s4 _) (h _ _ (Own.nil M))
  · rw [hm, Bool.true_and] at h
    simp (disch := omega) [sub_of k3]
    refine isMorphism_does _ us _ _ (hu3.put hb4 _) hfu hnu ?_
    cases hm2 : isMor us
    · rw [hm2] at h
      have hc0 : compW ws us = [] := by unfold compW compC; rw [hm, hm2]; rfl
      rw [hc0] at h
      simp (disch := omega)
      exact ret_sub (s4 _) (h _ _ (Own.nil M))
    · rw [hm2, if_pos rfl] at h
      by_cases hl : ws.length = us.length
      · rw [if_pos hl] at h
        have hb : ((ws.length : Int) == us.length) = true := by rw [beq_iff_eq, hl]
        have h15 := mor_len hm2
        have n6 : N1 b4 = none := hb4
        rcases ha' with h0 | ⟨b', o', rfl, ha'⟩
        · omega
        simp (disch := omega) [get_of k2, get_of k3, hb, sub_of k3]
        intro b6 hb6
        have q6 := hb6
        rw [put_none] at q6
        have hne36 : b3 ≠ b6 := by rintro rfl; rw [k3] at q6; cases q6.2
        simp (disch := omega) [get_of k2, get_of k3, n4.1, Ne.symm n4.1, n4.2.1, Ne.symm n4.2.1, q6.1, Ne.symm q6.1]
        refine loop_to tab_ok [5, 8, 9, 32, 33, 34, 35, 36, 37, 38, 39, 40, 41, 42, 43, 44, 45, 46, 47, 48, 49] (fun i : Nat => [(32, .int .i64 i)]) (fun i M' => i ≤ us.length ∧ shortTo ws us i = true ∧ ∃ v A, Sub N1 A ∧ A b4 = some (.cells true [.slice none 0 0] 1) ∧ A b6 = some (.cells true [v] 1) ∧ Own A v (strs ((us.map (imgOf ws)).take i)) M') (fun i => us.length - i) 0 (by kernel_rfl) (by simp (disch := omega)) ⟨by omega, rfl, .slice none 0 0, _, ((Sub.refl N1).put n6 _).putN hb6 _, by rw [put_ne _ _ (Ne.symm q6.1)]; exact put_same _ _ _, put_same _ _ _, Own.nil _⟩ ?_
        rintro i M' g ⟨hi, hsh, v, A, sA, k4, k6, oA⟩
        have sM := sA.trans oA.sub
        have l2 := sM _ _ k2
        have l6 := oA.sub _ _ k6
        have l4 := oA.sub _ _ k4
        by_cases hlt : i < us.length
        · have hg0 := ha' i hlt
          rw [strs_get, List.getElem?_eq_getElem hlt] at hg0
          have hg := get_keep hg0 (s3.trans sM)
          have hwo := mor_ok hm2 (List.getElem_mem hlt)
          have hlen := isWord_len hwo.2.1
          have hsn := map_snoc (ws := ws) hlt
          have hsh1 := shortTo_succ (ws := ws) hlt
          have hshn := shortTo_no (ws := ws) hlt
          obtain ⟨w, hw⟩ : ∃ w, w = us[i] := ⟨_, rfl⟩
          rw [← hw] at hg hwo hlen hsn hsh1 hshn
          have hL : Lt ws w := lt_of (isWord_all hwo.2.1) (by rw [hl]; exact hwo.2.2)
          simp (disch := omega) [hg, sub_of l2]
          refine image_does _ ws w _ _ (hv3.sub sM) hm (by omega) hL ?_
          by_cases h12 : (imgOf ws w).length ≤ 12
          · have h12' : ¬ (12 : Int) < (imgOf ws w).length := by omega
            simp (disch := omega) [h12', get_of l6]
            intro b9 hb9
            simp (disch := omega) [get_of l6, (show b6 ≠ b9 by rintro rfl; rw [hb9] at l6; cases l6)]
            have hle : (strs ((us.map (imgOf ws)).take i)).length ≤ 5 := by rw [strs_length, List.length_take]; omega
            refine app_own oA ((Sub.refl _).put hb9 _) (by simp (disch := omega); rfl) rfl rfl (by omega) (by simp (disch := omega)) (by simp (disch := omega); omega) ?_
            intro v4 M4 N4 o4 t4
            have l6' := t4 _ _ (o4.sub _ _ k6)
            have f4 := o4.flat
            simp (disch := omega) [l6', set_is, f4]
            have o5 := o4.other k6 (.cells true [v4] 1)
            refine Rnd.mk'' (M4.put b6 (.cells true [v4] 1)) (i + 1) (t4.both _ _) (by omega) (by (repeat (first | exact km | refine kp rfl ?_ | refine km' rfl ?_))) (by simp (disch := omega)) ⟨by omega, by rw [hsh1, hsh, decide_eq_true h12]; rfl, v4, A.put b6 (.cells true [v4] 1), ?_, ?_, put_same _ _ _, ?_⟩
            · intro j B hB
              have : j ≠ b6 := by rintro rfl; rw [put_none] at hb6; rw [hB] at hb6; cases hb6.2
              rw [put_ne _ _ this]
              exact sA _ _ hB
            · rw [put_ne _ _ (Ne.symm q6.1)]; exact k4
            · rw [hsn, ← strs_snoc]
              exact o5
          · have h12' : (12 : Int) < (imgOf ws w).length := by omega
            have hno := hshn h12
            rw [hno] at h
            have hc0 : compW ws us = [] := by unfold compW compC; rw [hm, hm2, if_pos hl, hno]; rfl
            rw [hc0] at h
            simp (disch := omega) [h12', l4, set_is]
            refine ret_sub ?_ (h _ _ (Own.nil M))
            intro j B hB
            have : j ≠ b4 := by rintro rfl; rw [s3 _ _ hB] at n6; cases n6
            rw [put_ne _ _ this]
            exact (s3.trans sM) _ _ hB
        · have hi' : i = us.length := by omega
          subst hi'
          have hc0 : compW ws us = us.map (imgOf ws) := by unfold compW compC; rw [hm, hm2, if_pos hl, hsh]; rfl
          rw [hsh, if_pos rfl, hc0] at h
          rw [List.take_of_length_le (by rw [List.length_map]; omega)] at oA
          have fv := oA.flat
          simp (disch := omega) [sub_of l6, l4, set_is, fv]
          have o5 := oA.other k4 (.cells true [v] 1)
          obtain ⟨M5, o6, s6⟩ := o5.base (M := M) (by
            intro j B hB
            have : j ≠ b4 := by rintro rfl; rw [s3 _ _ hB] at n6; cases n6
            rw [put_ne _ _ this]
            exact (s3.trans sA) _ _ hB)
          exact ret_sub s6 (h v M5 o6)
      · rw [if_neg hl] at h
        have hc0 : compW ws us = [] := by unfold compW compC; rw [hm, hm2, if_neg hl]; rfl
        rw [hc0] at h
        have hb : ((ws.length : Int) == us.length) = false := beq_eq_false_iff_ne.2 (by omega)
        simp (disch := omega) [get_of k2, get_of k3, hb]
        exact ret_sub (s4 _) (h _ _ (Own.nil M))
theorem spec_ComposeMorphisms (v u : Value) (ws us : List (List UInt8)) (M : Mem) (R : Value → Mem → Prop) (hv : Rd M v (strs ws)) (hf : Fine ws) (hn : ws.length ≤ 1099511627776) (hu : Rd M u (strs us)) (hfu : Fine us) (hnu : us.length ≤ 1099511627776) (h : MorR (compC ws us) (compW ws us) M R) : Does Tryz.prog 15 [.agg #[v], .agg #[u]] M R := by
  refine does_fn tab_ok Tryz.func15 rfl (by kernel_rfl) (by kernel_rfl) Tryz.ntmps15 Tryz.results15 rfl ?_
  obtain ⟨a, c, rfl, ha⟩ := hv.opened
  obtain ⟨a', c', rfl, ha'⟩ := hu.opened
  rw [strs_length] at ha ha' hv hu ⊢
  rw [strs_length]
  simp (disch := omega)
  intro b2 hb2
  simp (disch := omega)
  intro b3 hb3
  simp (disch := omega)
  intro b4 hb4
  have n3 := hb3
  have n4 := hb4
  rw [put_none] at n3
  rw [put_none, put_none] at n4
  have s3 : Sub M ((M.put b2 (.cells true [.slice a ws.length c] 1)).put b3 (.cells true [.slice a' us.length c'] 1)) := ((Sub.refl M).put hb2 _).putN hb3 _
  have k2 : ((M.put b2 (.cells true [.slice a ws.length c] 1)).put b3 (.cells true [.slice a' us.length c'] 1)) b2 = some (.cells true [.slice a ws.length c] 1) := by rw [put_ne _ _ (Ne.symm n3.1)]; exact put_same _ _ _
  have k3 : ((M.put b2 (.cells true [.slice a ws.length c] 1)).put b3 (.cells true [.slice a' us.length c'] 1)) b3 = some (.cells true [.slice a' us.length c'] 1) := put_same _ _ _
  have hv3 := hv.sub s3
  have hu3 := hu.sub s3
  simp (disch := omega) [n3.1, Ne.symm n3.1, n4.1, Ne.symm n4.1, n4.2.1, Ne.symm n4.2.1]
  generalize (M.put b2 (.cells true [.slice a ws.length c] 1)).put b3 (.cells true [.slice a' us.length c'] 1) = N1 at *
  have m2 : ∀ X, (N1.put b4 X) b2 = some (.cells true [.slice a ws.length c] 1) := fun X => by rw [put_ne _ _ (Ne.symm n4.2.1)]; exact k2
  have m3 : ∀ X, (N1.put b4 X) b3 = some (.cells true [.slice a' us.length c'] 1) := fun X => by rw [put_ne _ _ (Ne.symm n4.1)]; exact k3
  have s4 : ∀ X, Sub M (N1.put b4 X) := fun X => s3.putN hb4 X
  refine l06Is_does _ ws _ _ (hv3.put hb4 _) hf hn ?_
  unfold compC at h
  cases hm : isMor ws
  · rw [hm, Bool.false_and] at h
    have hc0 : compW ws us = [] := by unfold compW compC; rw [hm]; rfl
    rw [hc0] at h
    simp (disch := omega)
    exact ret_sub (s4 _) (h _ _ (Own.nil M))
  · rw [hm, Bool.true_and] at h
    simp (disch := omega) [sub_of k3]
    refine l06Is_does _ us _ _ (hu3.put hb4 _) hfu hnu ?_
    cases hm2 : isMor us
    · rw [hm2] at h
      have hc0 : compW ws us = [] := by unfold compW compC; rw [hm, hm2]; rfl
      rw [hc0] at h
      simp (disch := omega)
      exact ret_sub (s4 _) (h _ _ (Own.nil M))
    · rw [hm2, if_pos rfl] at h
      by_cases hl : ws.length = us.length
      · rw [if_pos hl] at h
        have hb : ((ws.length : Int) == us.length) = true := by rw [beq_iff_eq, hl]
        have h15 := mor_len hm2
        have n6 : N1 b4 = none := hb4
        rcases ha' with h0 | ⟨b', o', rfl, ha'⟩
        · omega
        simp (disch := omega) [get_of k2, get_of k3, hb, sub_of k3]
        intro b28 hb28
        have o28 : Own (N1.put b4 (.cells true [.slice none 0 0] 1)) (.slice (some ⟨b28, 0, none⟩) 0 0) [] ((N1.put b4 (.cells true [.slice none 0 0] 1)).put b28 (.cells true [] 0)) := Own.new hb28 rfl (Nat.le_refl 0)
        simp (disch := omega)
        intro b6 hb6
        have q6 := hb6
        rw [put_none, put_none] at q6
        have o6 := o28.push hb6 (.cells true [.slice (some ⟨b28, 0, none⟩) 0 0] 1)
        simp (disch := omega) [get_of k2, get_of k3, n4.1, Ne.symm n4.1, n4.2.1, Ne.symm n4.2.1, q6.1, Ne.symm q6.1]
        refine loop_to tab_ok [5, 7, 8, 30, 31, 32, 33, 34, 35, 36, 37, 38, 39, 40, 41, 42, 43, 44, 45, 46, 47, 48, 49, 50, 51, 52, 53] (fun i : Nat => [(7, .int .i64 i)]) (fun i M' => i ≤ us.length ∧ shortTo ws us i = true ∧ ∃ v A, Sub N1 A ∧ A b4 = some (.cells true [.slice none 0 0] 1) ∧ A b6 = some (.cells true [v] 1) ∧ Own A v (strs ((us.map (imgOf ws)).take i)) M') (fun i => us.length - i) 0 (by kernel_rfl) (by simp (disch := omega)) ⟨by omega, rfl, .slice (some ⟨b28, 0, none⟩) 0 0, _, ((Sub.refl N1).put n6 _).putN (none_of o28.sub (by rw [put_none, put_none]; exact q6)) _, by rw [put_ne _ _ (Ne.symm q6.2.1)]; exact put_same _ _ _, put_same _ _ _, o6⟩ ?_
        rintro i M' g ⟨hi, hsh, v, A, sA, k4, k6, oA⟩
        have sM := sA.trans oA.sub
        have l2 := sM _ _ k2
        have l6 := oA.sub _ _ k6
        have l4 := oA.sub _ _ k4
        by_cases hlt : i < us.length
        · have hg0 := ha' i hlt
          rw [strs_get, List.getElem?_eq_getElem hlt] at hg0
          have hg := get_keep hg0 (s3.trans sM)
          have hwo := mor_ok hm2 (List.getElem_mem hlt)
          have hlen := isWord_len hwo.2.1
          have hsn := map_snoc (ws := ws) hlt
          have hsh1 := shortTo_succ (ws := ws) hlt
          have hshn := shortTo_no (ws := ws) hlt
          obtain ⟨w, hw⟩ : ∃ w, w = us[i] := ⟨_, rfl⟩
          rw [← hw] at hg hwo hlen hsn hsh1 hshn
          have hL : Lt ws w := lt_of (isWord_all hwo.2.1) (by rw [hl]; exact hwo.2.2)
          have l3 := sM _ _ k3
          simp (disch := omega) [get_of l3]
          refine draw_to tab_ok (by kernel_rfl) (by kernel_rfl) (by rfl) ?_
          simp (disch := omega) [hg, sub_of l2, get_of l3]
          refine vQCall_at (a := []) (c := []) (l06Image_does _ ws w _ _ (hv3.sub sM) hm (by omega) hL ⟨rfl, rfl⟩) ?_
          by_cases h12 : (imgOf ws w).length ≤ 12
          · have h12' : ¬ (12 : Int) < (imgOf ws w).length := by omega
            simp (disch := omega) [h12', get_of l6]
            intro b9 hb9
            simp (disch := omega) [get_of l6, (show b6 ≠ b9 by rintro rfl; rw [hb9] at l6; cases l6)]
            have hle : (strs ((us.map (imgOf ws)).take i)).length ≤ 5 := by rw [strs_length, List.length_take]; omega
            refine app_own oA ((Sub.refl _).put hb9 _) (by simp (disch := omega); rfl) rfl rfl (by omega) (by simp (disch := omega)) (by simp (disch := omega); omega) ?_
            intro v4 M4 N4 o4 t4
            have l6' := t4 _ _ (o4.sub _ _ k6)
            have f4 := o4.flat
            simp (disch := omega) [l6', set_is, f4]
            have o5 := o4.other k6 (.cells true [v4] 1)
            refine Rnd.mk'' (M4.put b6 (.cells true [v4] 1)) (i + 1) (t4.both _ _) (by omega) (by (repeat (first | exact km | refine kp rfl ?_ | refine km' rfl ?_))) (by simp (disch := omega)) ⟨by omega, by rw [hsh1, hsh, decide_eq_true h12]; rfl, v4, A.put b6 (.cells true [v4] 1), ?_, ?_, put_same _ _ _, ?_⟩
            · intro j B hB
              have : j ≠ b6 := by rintro rfl; rw [hB] at q6; cases q6.2.2
              rw [put_ne _ _ this]
              exact sA _ _ hB
            · rw [put_ne _ _ (Ne.symm q6.2.1)]; exact k4
            · rw [hsn, ← strs_snoc]
              exact o5
          · have h12' : (12 : Int) < (imgOf ws w).length := by omega
            have hno := hshn h12
            rw [hno] at h
            have hc0 : compW ws us = [] := by unfold compW compC; rw [hm, hm2, if_pos hl, hno]; rfl
            rw [hc0] at h
            simp (disch := omega) [h12', l4, set_is]
            refine ret_sub ?_ (h _ _ (Own.nil M))
            intro j B hB
            have : j ≠ b4 := by rintro rfl; rw [s3 _ _ hB] at n6; cases n6
            rw [put_ne _ _ this]
            exact (s3.trans sM) _ _ hB
        · have hi' : i = us.length := by omega
          subst hi'
          have hc0 : compW ws us = us.map (imgOf ws) := by unfold compW compC; rw [hm, hm2, if_pos hl, hsh]; rfl
          rw [hsh, if_pos rfl, hc0] at h
          rw [List.take_of_length_le (by rw [List.length_map]; omega)] at oA
          have l3 := sM _ _ k3
          have fv := oA.flat
          simp (disch := omega) [sub_of l6, l4, set_is, get_of l3, fv]
          have o5 := oA.other k4 (.cells true [v] 1)
          obtain ⟨M5, o6, s6⟩ := o5.base (M := M) (by
            intro j B hB
            have : j ≠ b4 := by rintro rfl; rw [s3 _ _ hB] at n6; cases n6
            rw [put_ne _ _ this]
            exact (s3.trans sA) _ _ hB)
          exact ret_sub s6 (h v M5 o6)
      · rw [if_neg hl] at h
        have hc0 : compW ws us = [] := by unfold compW compC; rw [hm, hm2, if_neg hl]; rfl
        rw [hc0] at h
        have hb : ((ws.length : Int) == us.length) = false := beq_eq_false_iff_ne.2 (by omega)
        simp (disch := omega) [get_of k2, get_of k3, hb]
        exact ret_sub (s4 _) (h _ _ (Own.nil M))
end Go.Proofs.YticejlplbibegaaGreatDoor

/- Law: words whose images have squares. -/
import Derived.Test.YtbefijbmgmbphaaC47
import Derived.Test.YtbefijbmgmbphaaC46
import Derived.Test.YtbefijbmgmbphaaC26
import Derived.Test.YtbefijbmgmbphaaC18
namespace Go.Proofs.Ytbefijbmgmbphaa
open Go
set_option linter.unusedSimpArgs false
set_option linter.unusedVariables false

theorem lt_word {ws : List (List UInt8)} (hm : isMor ws = true) {l : List UInt8} (h : Lt ws l) (hl : l.length ≤ 60) : isWord l = true := by
  have h5 := mor_len hm
  unfold isWord
  rw [Bool.and_eq_true, decide_eq_true_eq, List.all_eq_true]
  refine ⟨hl, fun u hu => ?_⟩
  have := h u hu
  unfold isL
  simp
  omega
theorem few_of {ws : List (List UInt8)} {l : List UInt8} (h : Lt ws l) : fewB l ws.length = true := by
  unfold fewB
  rw [List.all_eq_true]
  intro u hu
  rw [decide_eq_true_eq]
  exact (h u hu).2
theorem testN_in {ws : List (List UInt8)} (h : testN ws ≠ 0) : 3 ≤ testN ws := by
  unfold testN at *
  split at h
  · exact absurd rfl h
  · rename_i h0; rw [if_neg h0]; omega
theorem testN_le (ws : List (List UInt8)) (h : isMor ws = true) : testN ws ≤ 30 := by
  unfold testN
  split
  · omega
  · have := lens_le h
    have := test_le this.2.1 this.1
    omega
/-- The first maker, or none. -/
theorem make_cases (ws : List (List UInt8)) : (makeC ws ≠ 0 ∧ makeT ws = []) ∨ (makeC ws = 0 ∧ testC ws = 0 ∧ isMor ws = true ∧ (makeT ws).length ≤ testN ws ∧ sqIn (makeT ws) = false ∧ sqIn (imgOf ws (makeT ws)) = true ∧ Lt ws (makeT ws) ∧ (makeT ws).length ≤ 5) := by
  unfold makeC makeT
  by_cases h0 : testC ws = 0
  · rw [if_pos h0, if_pos h0]
    by_cases h5 : testN ws ≤ 5
    · rw [if_pos h5, if_pos h5]
      obtain ⟨hm, _⟩ := testC_zero h0
      cases hk : makeTo ws (testN ws + 1) with
      | none => exact .inl ⟨by decide, rfl⟩
      | some u =>
        right
        obtain ⟨h1, h2, h3, h4⟩ := makeTo_is hk
        have h55 := mor_len hm
        refine ⟨rfl, h0, hm, by simp only; omega, h2, h3, fun c hc => ?_, by simp only; omega⟩
        obtain ⟨i, hi, rfl⟩ := h4 c hc
        rw [ltr_toNat (by omega)]
        omega
    · rw [if_neg h5, if_neg h5]; exact .inl ⟨by decide, rfl⟩
  · rw [if_neg h0, if_neg h0]; exact .inl ⟨h0, rfl⟩
theorem law_FnSquareMakers (v : Value) (xs : List UInt8) (M : Mem) (R : Value → Mem → Prop) (hv : Rd M v (bytesV xs)) (hl : xs.length ≤ 9223372036854775807) (h : ∀ M', Sub M M' → R (.bool true) M') : Does Try.prog 5 [v] M R := by
  refine does_fn tab_ok Try.func5 rfl (by kernel_rfl) (by kernel_rfl) Try.ntmps5 Try.results5 rfl ?_
  simp (disch := omega)
  refine big_does v xs _ _ hv hl ?_
  by_cases hb : 4096 < xs.length
  · rw [decide_eq_true hb]
    simp (disch := omega)
    exact ret_of (h _ (Sub.refl _))
  rw [decide_eq_false hb]
  simp (disch := omega)
  refine drawFSM_does v xs _ _ hv (by omega) ?_
  intro v1 ws N s0 hr h200 h100
  have hf : Fine ws := fun w hw => by have := h100 w hw; omega
  obtain ⟨a, c, rfl, _⟩ := hr.opened
  rw [strs_length] at hr ⊢
  obtain ⟨L, hL⟩ : ∃ L, L = ws.length := ⟨_, rfl⟩
  rw [← hL] at hr ⊢
  simp (disch := omega)
  intro b3 hb3
  simp (disch := omega)
  have k3 : (N.put b3 (.cells true [.slice a L c] 1)) b3 = some (.cells true [.slice a L c] 1) := put_same _ _ _
  have s1 := s0.trans ((Sub.refl N).put hb3 (.cells true [.slice a L c] 1))
  have hr1 := hr.put hb3 (.cells true [.slice a L c] 1)
  have hn1 : ws.length ≤ 1099511627776 := by omega
  rw [hL] at hr1
  rw [hL] at k3 s1
  rw [hL]
  generalize N.put b3 (.cells true [.slice a ws.length c] 1) = N1 at *
  refine impl_FirstSquareMaker _ ws _ _ hr1 hf hn1 ?_
  simp (disch := omega) [tup2, sub_of k3]
  refine spec_FirstSquareMaker _ ws _ _ hr1 hf hn1 ?_
  simp (disch := omega) [tup2, sub_of k3]
  refine impl_TestLength _ ws _ _ hr1 hf hn1 ?_
  simp (disch := omega) [tup2, sub_of k3]
  refine spec_TestLength _ ws _ _ hr1 hf hn1 ?_
  simp (disch := omega) [tup2, sub_of k3]
  have htT : testC ws = 0 → testT ws = testN ws ∧ 3 ≤ testN ws := by
    intro e
    obtain ⟨hm, hne⟩ := testC_zero e
    refine ⟨?_, testN_in hne⟩
    unfold testT
    rw [if_pos hm]
  rcases make_cases ws with ⟨hm0, hm1⟩ | ⟨hm0, ht0, hm, hle, hns, hsq, hlt, h5⟩
  · rw [hm1]
    by_cases htz : testC ws = 0
    · have := htT htz
      have h3 : ¬ (testT ws : Int) < 3 := by omega
      rw [htz]
      simp (disch := omega) [h3, hm0]
      exact ret_of (h _ s1)
    · simp (disch := omega) [htz, hm0]
      exact ret_of (h _ s1)
  have htT := htT ht0
  have h3 : ¬ (testT ws : Int) < 3 := by omega
  rw [ht0, hm0]
  simp (disch := omega) [h3]
  have huw : isWord (makeT ws) = true := lt_word hm hlt (by omega)
  have hpt : isPat [65, 65] = true := by decide
  have hgt : ¬ (testT ws : Int) < (makeT ws).length := by omega
  refine impl_HasPattern (makeT ws) [65, 65] _ _ (by omega) (by decide) ?_
  rw [has_sq, hns]
  unfold patC
  rw [huw, hpt]
  simp (disch := omega) [tup2, sub_of k3]
  have hc : codeI ws (makeT ws) 1 = 0 := by
    unfold codeI
    rw [hm, huw, few_of hlt]
    rfl
  refine impl_ImageOf _ ws (makeT ws) _ _ hr1 hf hn1 (by omega) ?_
  unfold iterT iterC
  rw [if_pos hc, if_pos hc, show (1 : Int).toNat = 1 from rfl, iterW_succ, iterW_zero]
  by_cases h60 : 60 < (imgOf ws (makeT ws)).length
  · rw [if_pos h60]
    simp (disch := omega) [tup2, sub_of k3, hgt]
    exact ret_of (h _ s1)
  rw [if_neg h60]
  simp (disch := omega) [tup2, sub_of k3, hgt]
  refine impl_HasPattern _ [65, 65] _ _ (by omega) (by decide) ?_
  rw [has_sq, hsq]
  unfold patC
  rw [lt_word hm (img_lt hm hlt) (by omega), hpt]
  simp (disch := omega) [tup2]
  exact ret_of (h _ s1)
end Go.Proofs.Ytbefijbmgmbphaa

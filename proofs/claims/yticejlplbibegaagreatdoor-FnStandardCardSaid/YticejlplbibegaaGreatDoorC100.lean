/- Law: standard words come back from their lists; balanced words are as many as are counted. -/
import Derived.Test.YticejlplbibegaaGreatDoorMA
import Derived.Test.YticejlplbibegaaGreatDoorM27
import Derived.Test.YticejlplbibegaaGreatDoorCH
import Derived.Test.YticejlplbibegaaGreatDoorCE
import Derived.Test.YticejlplbibegaaGreatDoorCF
import Derived.Test.YticejlplbibegaaGreatDoorCG
import Derived.Test.YticejlplbibegaaGreatDoorCL
import Derived.Test.YticejlplbibegaaGreatDoorCM
namespace Go.Proofs.YticejlplbibegaaGreatDoor
open Go
set_option linter.unusedSimpArgs false
set_option linter.unusedVariables false

theorem bal_num {n : Int} (h : balC n = 0) : ((balR n).length : Int) = (cbV n : Nat) ∧ cbC n = 0 := by
  unfold balC at h
  split at h
  · rename_i h1
    have h2 := h1
    unfold inB at h2
    rw [decide_eq_true_eq] at h2
    unfold balR cbV cbC
    rw [if_pos h1, if_pos (by omega), if_pos (by omega), bal_count n.toNat (by omega)]
    exact ⟨rfl, rfl⟩
  · cases h
theorem balR_len (n : Int) : (balR n).length ≤ 1024 := by
  unfold balR
  split
  · rename_i h1
    unfold inB at h1
    rw [decide_eq_true_eq] at h1
    exact Nat.le_trans (balL_len n.toNat) (pow2_le (by omega))
  · exact Nat.zero_le _
set_option maxRecDepth 4000 in
set_option maxHeartbeats 4000000 in
theorem law_FnStandard (v : Value) (xs : List UInt8) (M : Mem) (R : Value → Mem → Prop) (hv : Rd M v (bytesV xs)) (hl : xs.length ≤ 9223372036854775807) (h : ∀ M', Sub M M' → R (.bool true) M') : Does Tryz.prog 5 [v] M R := by
  refine does_fn tab_ok Tryz.func5 rfl (by kernel_rfl) (by kernel_rfl) Tryz.ntmps5 Tryz.results5 rfl ?_
  simp (disch := omega)
  refine big_does v xs _ _ hv hl ?_
  by_cases hb : 4096 < xs.length
  · rw [decide_eq_true hb]
    simp (disch := omega)
    exact ret_of (h _ (Sub.refl _))
  rw [decide_eq_false hb]
  simp (disch := omega)
  refine drawSTD_does v xs _ _ hv (by omega) ?_
  intro vz zs N1 sF rz hzl
  obtain ⟨az, cz, hve, _⟩ := rz.opened
  rw [ints_length] at hve
  subst hve
  simp (disch := omega)
  refine impl_StandardWord _ zs _ _ rz (by omega) ?_
  simp (disch := omega) [tup2]
  refine spec_StandardWord _ zs _ _ rz (by omega) ?_
  simp (disch := omega) [tup2]
  refine drawLOS_does v xs _ _ (hv.sub sF) (by omega) ?_
  intro w N2 s2 hw
  have sF := sF.trans s2
  have rz := rz.sub s2
  clear s2
  have hll := losL_len w
  simp (disch := omega)
  refine impl_ListOfStandard w _ _ (by omega) ?_
  intro vl N3 s3 rl
  have sF := sF.trans s3
  have rz := rz.sub s3
  clear s3
  simp (disch := omega)
  refine spec_ListOfStandard w _ _ (by omega) ?_
  intro vm N4 s4 rm
  have sF := sF.trans s4
  have rz := rz.sub s4
  have rl := rl.sub s4
  clear s4
  obtain ⟨al, cl, hve, _⟩ := rl.opened
  rw [ints_length, nI_len] at hve
  subst hve
  simp (disch := omega)
  refine likeInts_does _ vm _ _ _ _ rl rm (by rw [nI_len]; omega) (by rw [nI_len]; omega) ?_
  rw [beq_self_eq_true]
  simp (disch := omega)
  refine drawST_does v xs _ _ (hv.sub sF) (by omega) ?_
  intro a b c n N5 s5 hb1 hb2
  have sF := sF.trans s5
  have rz := rz.sub s5
  have rl := rl.sub s5
  clear s5
  simp (disch := omega)
  refine impl_SteppedWord a b c n _ _ (by omega) ?_
  simp (disch := omega) [tup2]
  refine spec_SteppedWord a b c n _ _ (by omega) ?_
  simp (disch := omega) [tup2]
  refine drawBW_does v xs _ _ (hv.sub sF) (by omega) ?_
  intro m N6 s6
  have sF := sF.trans s6
  have rz := rz.sub s6
  have rl := rl.sub s6
  clear s6
  have hbl := balR_len m
  simp (disch := omega)
  refine impl_BalancedWords m _ _ ?_
  intro vb N7 o7
  have sF := sF.trans o7.sub
  have rz := rz.sub o7.sub
  have rl := rl.sub o7.sub
  simp (disch := omega)
  refine spec_BalancedWords m _ _ ?_
  intro vc N8 o8
  have sF := sF.trans o8.sub
  have rz := rz.sub o8.sub
  have rl := rl.sub o8.sub
  have rb := o7.rd.sub o8.sub
  have rc := o8.rd
  clear o7 o8
  obtain ⟨ab, cb, hve, _⟩ := rb.opened
  rw [strs_length] at hve
  subst hve
  simp (disch := omega)
  refine words9_does _ vc _ _ _ _ rb rc (by omega) (by omega) ?_
  rw [beq_self_eq_true]
  simp (disch := omega)
  refine drawCB_does v xs _ _ (hv.sub sF) (by omega) ?_
  intro k N9 s9
  have sF := sF.trans s9
  have rz := rz.sub s9
  have rl := rl.sub s9
  clear s9 rb rc
  simp (disch := omega)
  refine impl_CountBalanced k _ _ ?_
  simp (disch := omega)
  refine spec_CountBalanced k _ _ ?_
  simp (disch := omega)
  generalize cbV k = K1
  generalize cbC k = K2
  by_cases hC3 : balC m = 0
  · obtain ⟨e1, e2⟩ := bal_num hC3
    simp (disch := omega) [hC3]
    refine impl_CountBalanced m _ _ ?_
    rw [e2, ← e1]
    simp (disch := omega)
    by_cases hC4 : stpOk a b c n = true
    · have q1 : stpC a b c n = 0 := by unfold stpC; rw [if_pos hC4]
      have q2 : stpW a b c n = stepL a.toNat b.toNat c.toNat n.toNat := by unfold stpW; rw [if_pos hC4]
      have hh := hC4
      unfold stpOk at hh
      simp only [Bool.and_eq_true, decide_eq_true_eq] at hh
      obtain ⟨h1, h2, h3, h4⟩ := hh
      have q3 := step_bal (a := a.toNat) (b := b.toNat) (by omega) (by omega) c.toNat n.toNat
      have q4 := stepL_len a.toNat b.toNat c.toNat n.toNat
      have q5 := (Bool.and_eq_true_iff.1 (ab_isAB (stepL_ab a.toNat b.toNat c.toNat n.toNat) (by omega))).1
      have q6 : wcode (stepL a.toNat b.toNat c.toNat n.toNat) = 0 := by unfold wcode; rw [q5]; rfl
      have q7 : decide (balM (stepL a.toNat b.toNat c.toNat n.toNat) (stepL a.toNat b.toNat c.toNat n.toNat).length ≤ 1) = true := decide_eq_true q3
      rw [q1, q2]
      generalize stepL a.toNat b.toNat c.toNat n.toNat = S at *
      have q8 : (S.length : Int) = n := by omega
      simp (disch := omega)
      refine impl_IsBal2 S _ _ (by omega) ?_
      rw [q5, q6, if_pos rfl, q7]
      intro N6 s6
      have sF := sF.trans s6
      have rz := rz.sub s6
      have rl := rl.sub s6
      clear s6
      simp (disch := omega) [tup2, q8]
      by_cases hC5 : losC w = 0
      · obtain ⟨e1, e2, e3⟩ := losC_ok hC5
        simp (disch := omega) [hC5]
        refine impl_StandardWord _ (nI (losL w)) _ _ rl (by rw [nI_len]; omega) ?_
        rw [e1, e2]
        simp (disch := omega) [tup2]
        by_cases hC1 : stdC zs = 0
        · obtain ⟨e1, e2⟩ := los_std hC1
          have e3 := stdW_len zs
          have e4 := std_bal hC1
          have e5 := losL_len (stdW zs)
          have e6 := (Bool.and_eq_true_iff.1 (ab_isAB (stdW_ab zs) e3)).1
          have e7 : wcode (stdW zs) = 0 := by unfold wcode; rw [e6]; rfl
          have e8 : decide (balM (stdW zs) (stdW zs).length ≤ 1) = true := decide_eq_true e4
          generalize stdW zs = S at *
          simp (disch := omega) [hC1]
          refine impl_ListOfStandard S _ _ (by omega) ?_
          intro vq N7 s7 r7
          rw [e1]
          obtain ⟨aq, cq, hve, _⟩ := r7.opened
          rw [ints_length, nI_len] at hve
          subst hve
          simp (disch := omega)
          refine impl_IsBal2 S _ _ (by omega) ?_
          rw [e6, e7, if_pos rfl, e8]
          intro N8 s8
          have e2I : ((losL S).length : Int) ≤ zs.length := by omega
          simp (disch := omega) [tup2, e2, e2I]
          exact ret_of (h _ ((sF.trans s7).trans s8))
        · rw [stdC_no hC1]
          simp (disch := omega) [hC1]
          exact ret_of (h _ sF)
      · simp (disch := omega) [hC5]
        by_cases hC1 : stdC zs = 0
        · obtain ⟨e1, e2⟩ := los_std hC1
          have e3 := stdW_len zs
          have e4 := std_bal hC1
          have e5 := losL_len (stdW zs)
          have e6 := (Bool.and_eq_true_iff.1 (ab_isAB (stdW_ab zs) e3)).1
          have e7 : wcode (stdW zs) = 0 := by unfold wcode; rw [e6]; rfl
          have e8 : decide (balM (stdW zs) (stdW zs).length ≤ 1) = true := decide_eq_true e4
          generalize stdW zs = S at *
          simp (disch := omega) [hC1]
          refine impl_ListOfStandard S _ _ (by omega) ?_
          intro vq N7 s7 r7
          rw [e1]
          obtain ⟨aq, cq, hve, _⟩ := r7.opened
          rw [ints_length, nI_len] at hve
          subst hve
          simp (disch := omega)
          refine impl_IsBal2 S _ _ (by omega) ?_
          rw [e6, e7, if_pos rfl, e8]
          intro N8 s8
          have e2I : ((losL S).length : Int) ≤ zs.length := by omega
          simp (disch := omega) [tup2, e2, e2I]
          exact ret_of (h _ ((sF.trans s7).trans s8))
        · rw [stdC_no hC1]
          simp (disch := omega) [hC1]
          exact ret_of (h _ sF)
    · have q1 : stpC a b c n = 2 := by unfold stpC; rw [if_neg hC4]
      rw [q1]
      simp (disch := omega)
      by_cases hC5 : losC w = 0
      · obtain ⟨e1, e2, e3⟩ := losC_ok hC5
        simp (disch := omega) [hC5]
        refine impl_StandardWord _ (nI (losL w)) _ _ rl (by rw [nI_len]; omega) ?_
        rw [e1, e2]
        simp (disch := omega) [tup2]
        by_cases hC1 : stdC zs = 0
        · obtain ⟨e1, e2⟩ := los_std hC1
          have e3 := stdW_len zs
          have e4 := std_bal hC1
          have e5 := losL_len (stdW zs)
          have e6 := (Bool.and_eq_true_iff.1 (ab_isAB (stdW_ab zs) e3)).1
          have e7 : wcode (stdW zs) = 0 := by unfold wcode; rw [e6]; rfl
          have e8 : decide (balM (stdW zs) (stdW zs).length ≤ 1) = true := decide_eq_true e4
          generalize stdW zs = S at *
          simp (disch := omega) [hC1]
          refine impl_ListOfStandard S _ _ (by omega) ?_
          intro vq N7 s7 r7
          rw [e1]
          obtain ⟨aq, cq, hve, _⟩ := r7.opened
          rw [ints_length, nI_len] at hve
          subst hve
          simp (disch := omega)
          refine impl_IsBal2 S _ _ (by omega) ?_
          rw [e6, e7, if_pos rfl, e8]
          intro N8 s8
          have e2I : ((losL S).length : Int) ≤ zs.length := by omega
          simp (disch := omega) [tup2, e2, e2I]
          exact ret_of (h _ ((sF.trans s7).trans s8))
        · rw [stdC_no hC1]
          simp (disch := omega) [hC1]
          exact ret_of (h _ sF)
      · simp (disch := omega) [hC5]
        by_cases hC1 : stdC zs = 0
        · obtain ⟨e1, e2⟩ := los_std hC1
          have e3 := stdW_len zs
          have e4 := std_bal hC1
          have e5 := losL_len (stdW zs)
          have e6 := (Bool.and_eq_true_iff.1 (ab_isAB (stdW_ab zs) e3)).1
          have e7 : wcode (stdW zs) = 0 := by unfold wcode; rw [e6]; rfl
          have e8 : decide (balM (stdW zs) (stdW zs).length ≤ 1) = true := decide_eq_true e4
          generalize stdW zs = S at *
          simp (disch := omega) [hC1]
          refine impl_ListOfStandard S _ _ (by omega) ?_
          intro vq N7 s7 r7
          rw [e1]
          obtain ⟨aq, cq, hve, _⟩ := r7.opened
          rw [ints_length, nI_len] at hve
          subst hve
          simp (disch := omega)
          refine impl_IsBal2 S _ _ (by omega) ?_
          rw [e6, e7, if_pos rfl, e8]
          intro N8 s8
          have e2I : ((losL S).length : Int) ≤ zs.length := by omega
          simp (disch := omega) [tup2, e2, e2I]
          exact ret_of (h _ ((sF.trans s7).trans s8))
        · rw [stdC_no hC1]
          simp (disch := omega) [hC1]
          exact ret_of (h _ sF)
  · simp (disch := omega) [hC3]
    by_cases hC4 : stpOk a b c n = true
    · have q1 : stpC a b c n = 0 := by unfold stpC; rw [if_pos hC4]
      have q2 : stpW a b c n = stepL a.toNat b.toNat c.toNat n.toNat := by unfold stpW; rw [if_pos hC4]
      have hh := hC4
      unfold stpOk at hh
      simp only [Bool.and_eq_true, decide_eq_true_eq] at hh
      obtain ⟨h1, h2, h3, h4⟩ := hh
      have q3 := step_bal (a := a.toNat) (b := b.toNat) (by omega) (by omega) c.toNat n.toNat
      have q4 := stepL_len a.toNat b.toNat c.toNat n.toNat
      have q5 := (Bool.and_eq_true_iff.1 (ab_isAB (stepL_ab a.toNat b.toNat c.toNat n.toNat) (by omega))).1
      have q6 : wcode (stepL a.toNat b.toNat c.toNat n.toNat) = 0 := by unfold wcode; rw [q5]; rfl
      have q7 : decide (balM (stepL a.toNat b.toNat c.toNat n.toNat) (stepL a.toNat b.toNat c.toNat n.toNat).length ≤ 1) = true := decide_eq_true q3
      rw [q1, q2]
      generalize stepL a.toNat b.toNat c.toNat n.toNat = S at *
      have q8 : (S.length : Int) = n := by omega
      simp (disch := omega)
      refine impl_IsBal2 S _ _ (by omega) ?_
      rw [q5, q6, if_pos rfl, q7]
      intro N6 s6
      have sF := sF.trans s6
      have rz := rz.sub s6
      have rl := rl.sub s6
      clear s6
      simp (disch := omega) [tup2, q8]
      by_cases hC5 : losC w = 0
      · obtain ⟨e1, e2, e3⟩ := losC_ok hC5
        simp (disch := omega) [hC5]
        refine impl_StandardWord _ (nI (losL w)) _ _ rl (by rw [nI_len]; omega) ?_
        rw [e1, e2]
        simp (disch := omega) [tup2]
        by_cases hC1 : stdC zs = 0
        · obtain ⟨e1, e2⟩ := los_std hC1
          have e3 := stdW_len zs
          have e4 := std_bal hC1
          have e5 := losL_len (stdW zs)
          have e6 := (Bool.and_eq_true_iff.1 (ab_isAB (stdW_ab zs) e3)).1
          have e7 : wcode (stdW zs) = 0 := by unfold wcode; rw [e6]; rfl
          have e8 : decide (balM (stdW zs) (stdW zs).length ≤ 1) = true := decide_eq_true e4
          generalize stdW zs = S at *
          simp (disch := omega) [hC1]
          refine impl_ListOfStandard S _ _ (by omega) ?_
          intro vq N7 s7 r7
          rw [e1]
          obtain ⟨aq, cq, hve, _⟩ := r7.opened
          rw [ints_length, nI_len] at hve
          subst hve
          simp (disch := omega)
          refine impl_IsBal2 S _ _ (by omega) ?_
          rw [e6, e7, if_pos rfl, e8]
          intro N8 s8
          have e2I : ((losL S).length : Int) ≤ zs.length := by omega
          simp (disch := omega) [tup2, e2, e2I]
          exact ret_of (h _ ((sF.trans s7).trans s8))
        · rw [stdC_no hC1]
          simp (disch := omega) [hC1]
          exact ret_of (h _ sF)
      · simp (disch := omega) [hC5]
        by_cases hC1 : stdC zs = 0
        · obtain ⟨e1, e2⟩ := los_std hC1
          have e3 := stdW_len zs
          have e4 := std_bal hC1
          have e5 := losL_len (stdW zs)
          have e6 := (Bool.and_eq_true_iff.1 (ab_isAB (stdW_ab zs) e3)).1
          have e7 : wcode (stdW zs) = 0 := by unfold wcode; rw [e6]; rfl
          have e8 : decide (balM (stdW zs) (stdW zs).length ≤ 1) = true := decide_eq_true e4
          generalize stdW zs = S at *
          simp (disch := omega) [hC1]
          refine impl_ListOfStandard S _ _ (by omega) ?_
          intro vq N7 s7 r7
          rw [e1]
          obtain ⟨aq, cq, hve, _⟩ := r7.opened
          rw [ints_length, nI_len] at hve
          subst hve
          simp (disch := omega)
          refine impl_IsBal2 S _ _ (by omega) ?_
          rw [e6, e7, if_pos rfl, e8]
          intro N8 s8
          have e2I : ((losL S).length : Int) ≤ zs.length := by omega
          simp (disch := omega) [tup2, e2, e2I]
          exact ret_of (h _ ((sF.trans s7).trans s8))
        · rw [stdC_no hC1]
          simp (disch := omega) [hC1]
          exact ret_of (h _ sF)
    · have q1 : stpC a b c n = 2 := by unfold stpC; rw [if_neg hC4]
      rw [q1]
      simp (disch := omega)
      by_cases hC5 : losC w = 0
      · obtain ⟨e1, e2, e3⟩ := losC_ok hC5
        simp (disch := omega) [hC5]
        refine impl_StandardWord _ (nI (losL w)) _ _ rl (by rw [nI_len]; omega) ?_
        rw [e1, e2]
        simp (disch := omega) [tup2]
        by_cases hC1 : stdC zs = 0
        · obtain ⟨e1, e2⟩ := los_std hC1
          have e3 := stdW_len zs
          have e4 := std_bal hC1
          have e5 := losL_len (stdW zs)
          have e6 := (Bool.and_eq_true_iff.1 (ab_isAB (stdW_ab zs) e3)).1
          have e7 : wcode (stdW zs) = 0 := by unfold wcode; rw [e6]; rfl
          have e8 : decide (balM (stdW zs) (stdW zs).length ≤ 1) = true := decide_eq_true e4
          generalize stdW zs = S at *
          simp (disch := omega) [hC1]
          refine impl_ListOfStandard S _ _ (by omega) ?_
          intro vq N7 s7 r7
          rw [e1]
          obtain ⟨aq, cq, hve, _⟩ := r7.opened
          rw [ints_length, nI_len] at hve
          subst hve
          simp (disch := omega)
          refine impl_IsBal2 S _ _ (by omega) ?_
          rw [e6, e7, if_pos rfl, e8]
          intro N8 s8
          have e2I : ((losL S).length : Int) ≤ zs.length := by omega
          simp (disch := omega) [tup2, e2, e2I]
          exact ret_of (h _ ((sF.trans s7).trans s8))
        · rw [stdC_no hC1]
          simp (disch := omega) [hC1]
          exact ret_of (h _ sF)
      · simp (disch := omega) [hC5]
        by_cases hC1 : stdC zs = 0
        · obtain ⟨e1, e2⟩ := los_std hC1
          have e3 := stdW_len zs
          have e4 := std_bal hC1
          have e5 := losL_len (stdW zs)
          have e6 := (Bool.and_eq_true_iff.1 (ab_isAB (stdW_ab zs) e3)).1
          have e7 : wcode (stdW zs) = 0 := by unfold wcode; rw [e6]; rfl
          have e8 : decide (balM (stdW zs) (stdW zs).length ≤ 1) = true := decide_eq_true e4
          generalize stdW zs = S at *
          simp (disch := omega) [hC1]
          refine impl_ListOfStandard S _ _ (by omega) ?_
          intro vq N7 s7 r7
          rw [e1]
          obtain ⟨aq, cq, hve, _⟩ := r7.opened
          rw [ints_length, nI_len] at hve
          subst hve
          simp (disch := omega)
          refine impl_IsBal2 S _ _ (by omega) ?_
          rw [e6, e7, if_pos rfl, e8]
          intro N8 s8
          have e2I : ((losL S).length : Int) ≤ zs.length := by omega
          simp (disch := omega) [tup2, e2, e2I]
          exact ret_of (h _ ((sF.trans s7).trans s8))
        · rw [stdC_no hC1]
          simp (disch := omega) [hC1]
          exact ret_of (h _ sF)
end Go.Proofs.YticejlplbibegaaGreatDoor

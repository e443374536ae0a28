/- Law: words of slopes. -/
import Derived.Test.YticejlplbibegaaGreatDoorM24
import Derived.Test.YticejlplbibegaaGreatDoorC93
import Derived.Test.YticejlplbibegaaGreatDoorC33
namespace Go.Proofs.YticejlplbibegaaGreatDoor
open Go
set_option linter.unusedSimpArgs false
set_option linter.unusedVariables false

theorem back_drop : ∀ (i : Nat) (l : List UInt8), (backN (l.drop i)).1 ≤ (backN l).1 ∧ (backN (l.drop i)).2 ≤ (backN l).2
  | 0, l => ⟨Nat.le_refl _, Nat.le_refl _⟩
  | i + 1, [] => ⟨Nat.le_refl _, Nat.le_refl _⟩
  | i + 1, u :: l => by
    have ih := back_drop i l
    rw [List.drop_succ_cons]
    by_cases h : u = 97
    · rw [show backN (u :: l) = ((backN l).1, (backN l).1 + (backN l).2) from if_pos h]
      simp only; omega
    · rw [show backN (u :: l) = ((backN l).1 + (backN l).2, (backN l).2) from if_neg h]
      simp only; omega
theorem pthC_ok {p q : Int} (h : pthC p q = 0) : ∃ a b : Nat, p = a ∧ q = b ∧ a ≤ 1000 ∧ b ≤ 1000 ∧ backN (pthW p q) = (a, b) ∧ (pthW p q).length ≤ 60 := by
  have hh := h
  unfold pthC at h
  split at h
  · rename_i h1
    obtain ⟨a, b, rfl, rfl, h3, h4, ha, hb, hg⟩ := slopeOk_is (by omega) h1
    split at h
    · rename_i h5
      refine ⟨a, b, rfl, rfl, ha, hb, ?_, ?_⟩
      · unfold pthW
        rw [if_pos hh, Int.toNat_natCast, Int.toNat_natCast]
        exact back_pth _ _ _ (Nat.le_refl _) (by omega) (by omega) hg
      · unfold pthW
        rw [if_pos hh]; exact h5
    · cases h
  · cases h
theorem impl_IsBal (w : List UInt8) (M : Mem) (R : Value → Mem → Prop) (hl : w.length ≤ 1099511627776) (h : ∀ M', Sub M M' → R (tup2 (if isWord w then Value.bool (decide (balM w w.length ≤ 1)) else .bool false) (wcode w)) M') : Does Tryz.prog 40 [str w] M R := by
  refine does_fn tab_ok Tryz.func40 rfl (by kernel_rfl) (by kernel_rfl) Tryz.ntmps40 Tryz.results40 rfl ?_
  simp (disch := omega)
  intro b1 hb1
  simp (disch := omega)
  have hs1 : Sub M (M.put b1 (.cells true [str w] 1)) := (Sub.refl _).put hb1 _
  refine wordCode_does _ _ [w] true (fun _ => True) _ _ (Rd.new rfl (Nat.le_refl 1)) (fine1 hl) (by simp) trivial stab_true (always_tells _) ?_
  rw [codeOf1]
  unfold tup2 wcode at h
  cases hw : isWord w
  · rw [hw] at h
    simp (disch := omega)
    exact ret_of (h _ hs1)
  · rw [hw] at h
    simp (disch := omega)
    refine balance_does w _ _ hw ?_
    intro M' hs
    simp (disch := omega)
    exact ret_of (h _ (hs1.trans hs))
set_option maxRecDepth 4000 in
set_option maxHeartbeats 4000000 in
theorem law_FnSlopes (v : Value) (xs : List UInt8) (M : Mem) (R : Value → Mem → Prop) (hv : Rd M v (bytesV xs)) (hl : xs.length ≤ 9223372036854775807) (h : ∀ M', Sub M M' → R (.bool true) M') : Does Tryz.prog 4 [v] M R := by
  refine does_fn tab_ok Tryz.func4 rfl (by kernel_rfl) (by kernel_rfl) Tryz.ntmps4 Tryz.results4 rfl ?_
  simp (disch := omega)
  refine big_does v xs _ _ hv hl ?_
  by_cases hb : 4096 < xs.length
  · rw [decide_eq_true hb]
    simp (disch := omega)
    exact ret_of (h _ (Sub.refl _))
  rw [decide_eq_false hb]
  simp (disch := omega)
  refine drawWOS_does v xs _ _ hv (by omega) ?_
  intro p q N1 sF hp hq
  unfold NearOk at hp hq
  simp (disch := omega)
  refine impl_WordOfSlope p q _ _ ?_
  simp (disch := omega) [tup2]
  refine spec_WordOfSlope p q _ _ ?_
  simp (disch := omega) [tup2]
  refine drawSOW_does v xs _ _ (hv.sub sF) (by omega) ?_
  intro w N2 s2 hw
  have sF := sF.trans s2
  clear s2
  simp (disch := omega)
  refine impl_SlopeOfWord w _ _ (by omega) ?_
  intro N3 s3
  have sF := sF.trans s3
  clear s3
  simp (disch := omega)
  refine spec_SlopeOfWord w _ _ (by omega) ?_
  simp (disch := omega)
  refine drawCut_does v xs _ _ (hv.sub sF) (by omega) ?_
  intro u N4 s4 hu
  have sF := sF.trans s4
  clear s4
  simp (disch := omega)
  refine impl_CutOf u _ _ (by omega) ?_
  intro N5 s5
  have sF := sF.trans s5
  clear s5
  simp (disch := omega)
  refine spec_CutOf u _ _ (by omega) ?_
  simp (disch := omega)
  refine impl_CentralWord p q _ _ ?_
  simp (disch := omega) [tup2]
  refine spec_CentralWord p q _ _ ?_
  simp (disch := omega) [tup2]
  refine impl_PathOf p q _ _ ?_
  simp (disch := omega) [tup2]
  refine spec_PathOf p q _ _ ?_
  simp (disch := omega) [tup2]
  by_cases hC0 : pthC p q = 0
  · obtain ⟨a, b, hpa, hqb, ha, hb', hbk, hpl⟩ := pthC_ok hC0
    generalize pthW p q = P at *
    have hbd := fun i => back_drop i P
    rw [hbk] at hbd
    simp only at hbd
    simp (disch := omega) [hC0]
    refine loop_to tab_ok [31, 32, 33, 177, 178, 179, 180, 181, 182, 183, 184, 185, 186, 187, 188, 189, 190] (fun i : Nat => [(33, .int .i64 ((i : Int) - 1)), (31, .int .i64 ((backN (P.drop i)).1 : Nat)), (32, .int .i64 ((backN (P.drop i)).2 : Nat))]) (fun i M' => N5 = M' ∧ i ≤ P.length) (fun i => i) P.length (by kernel_rfl) (by simp (disch := omega) [backN]) ⟨rfl, by omega⟩ ?_
    rintro i M' g ⟨rfl, hi⟩
    by_cases hi0 : i = 0
    · subst hi0
      rw [List.drop_zero, hbk]
      simp only
      have hpI : (a : Int) = p := hpa.symm
      have hqI : (b : Int) = q := hqb.symm
      simp (disch := omega) [hpI, hqI]
      by_cases hC2 : cenC p q = 0
      · obtain ⟨h2, h3⟩ := cenC_ok hC2
        have hsv := slopeOk_is (by omega) h2
        obtain ⟨a, b, hpa, hqb, hp1, hq1, ha, hb, hg⟩ := hsv
        have hcw : cenW p q = ((slopeL a b).take (a + b - 1)).tail := by unfold cenW; rw [if_pos hC2, hpa, hqb, Int.toNat_natCast, Int.toNat_natCast]
        have hcl := central_len (p := a) (q := b) (by omega) (by omega)
        have hcp := central_pal hg (by omega) (by omega)
        have hcd : isWord ((slopeL a b).take (a + b - 1)).tail = true := by
          refine (Bool.and_eq_true_iff.1 (ab_isAB (w := ((slopeL a b).take (a + b - 1)).tail) (fun x hx => ?_) (by rw [hcl]; omega))).1
          exact stepL_ab _ _ _ _ x (List.mem_of_mem_take (List.mem_of_mem_tail hx))
        have hcc : wcode ((slopeL a b).take (a + b - 1)).tail = 0 := by unfold wcode; rw [hcd]; rfl
        rw [hcw]
        generalize ((slopeL a b).take (a + b - 1)).tail = C at *
        have hsum : (p + q) - 2 = (C.length : Int) := by omega
        have hsum2 : ((C.length : Int) != (p + q) - 2) = false := by rw [hsum]; simp
        simp (disch := omega) [hC2]
        refine impl_IsPalindrome C _ _ (by omega) ?_
        rw [hcd, hcp, hcc]
        intro N1 s1
        have sF := sF.trans s1
        clear s1
        have hpr : -5000 ≤ p ∧ p ≤ 5000 ∧ -5000 ≤ q ∧ q ≤ 5000 := by omega
        simp (disch := omega) [tup2, hsum, hsum2]
        by_cases hC3 : kC u = 0
        · obtain ⟨e1, e2, e3⟩ := kC_ok hC3
          have e4 := kA_len u
          simp (disch := omega) [hC3]
          refine impl_SlopeOfWord (kA u) _ _ (by omega) ?_
          intro N1 s1
          simp (disch := omega)
          refine impl_SlopeOfWord (kB u) _ _ (by omega) ?_
          intro N2 s2
          have sF := (sF.trans s1).trans s2
          clear s1 s2
          rw [e2, e3]
          generalize sP (kA u) = x1
          generalize sQ (kA u) = x2
          generalize sP (kB u) = x3
          generalize sQ (kB u) = x4
          simp (disch := omega) [e1]
          by_cases hC4 : sC w = 0
          · obtain ⟨e1, e2⟩ := word_back hC4
            simp (disch := omega) [hC4]
            refine impl_WordOfSlope _ _ _ _ ?_
            rw [e1, e2]
            simp (disch := omega) [tup2]
            by_cases hC1 : wosC p q = 0
            · obtain ⟨h2, h3⟩ := wosC_ok hC1
              obtain ⟨a, b, rfl, rfl, _, _, ha, hb, hg⟩ := slopeOk_is (by omega) h2
              have hW : wosW (a : Int) (b : Int) = slopeL a b := by unfold wosW; rw [if_pos hC1, Int.toNat_natCast, Int.toNat_natCast]
              obtain ⟨w1, w2, w3, w4⟩ := slope_back hg (by omega)
              have hpos := pos_of_gcd hg
              have hsC : sC (slopeL a b) = 0 := by unfold sC; rw [if_pos w1, if_pos w2]
              have hsP : sP (slopeL a b) = a := by unfold sP; rw [if_pos w1, if_pos w2, w3]
              have hsQ : sQ (slopeL a b) = b := by unfold sQ; rw [if_pos w1, if_pos w2, w4]
              have hwd := (Bool.and_eq_true_iff.1 w1).1
              have hwc : wcode (slopeL a b) = 0 := by unfold wcode; rw [hwd]; rfl
              have hbal : balM (slopeL a b) (slopeL a b).length ≤ 1 := step_bal hpos (by omega) 0 (a + b)
              have hln : (slopeL a b).length = a + b := stepL_len _ _ _ _
              have hly : ∀ k, 1 ≤ k → k < (slopeL a b).length → _ := fun k h1 h2 => slope_lyndon hg h1 (by rw [hln] at h2; exact h2)
              have hbd : decide (balM (slopeL a b) (slopeL a b).length ≤ 1) = true := decide_eq_true hbal
              rw [hW]
              generalize slopeL a b = S at *
              simp (disch := omega) [hC1]
              refine impl_SlopeOfWord S _ _ (by omega) ?_
              rw [hsP, hsQ, hsC]
              intro N3 s3
              simp (disch := omega)
              refine impl_IsBal S _ _ (by omega) ?_
              rw [hwd, hwc, if_pos rfl, hbd]
              intro N4 s4
              simp (disch := omega) [tup2]
              refine impl_IsLyndon S _ _ hwd (by omega) hly ?_
              intro N5 s5
              simp (disch := omega) [tup2]
              exact ret_of (h _ (((sF.trans s3).trans s4).trans s5))
            · have hW : wosW p q = [] := by unfold wosW; rw [if_neg hC1]
              rw [hW]
              simp (disch := omega) [hC1]
              exact ret_of (h _ sF)
          · simp (disch := omega) [hC4]
            by_cases hC1 : wosC p q = 0
            · obtain ⟨h2, h3⟩ := wosC_ok hC1
              obtain ⟨a, b, rfl, rfl, _, _, ha, hb, hg⟩ := slopeOk_is (by omega) h2
              have hW : wosW (a : Int) (b : Int) = slopeL a b := by unfold wosW; rw [if_pos hC1, Int.toNat_natCast, Int.toNat_natCast]
              obtain ⟨w1, w2, w3, w4⟩ := slope_back hg (by omega)
              have hpos := pos_of_gcd hg
              have hsC : sC (slopeL a b) = 0 := by unfold sC; rw [if_pos w1, if_pos w2]
              have hsP : sP (slopeL a b) = a := by unfold sP; rw [if_pos w1, if_pos w2, w3]
              have hsQ : sQ (slopeL a b) = b := by unfold sQ; rw [if_pos w1, if_pos w2, w4]
              have hwd := (Bool.and_eq_true_iff.1 w1).1
              have hwc : wcode (slopeL a b) = 0 := by unfold wcode; rw [hwd]; rfl
              have hbal : balM (slopeL a b) (slopeL a b).length ≤ 1 := step_bal hpos (by omega) 0 (a + b)
              have hln : (slopeL a b).length = a + b := stepL_len _ _ _ _
              have hly : ∀ k, 1 ≤ k → k < (slopeL a b).length → _ := fun k h1 h2 => slope_lyndon hg h1 (by rw [hln] at h2; exact h2)
              have hbd : decide (balM (slopeL a b) (slopeL a b).length ≤ 1) = true := decide_eq_true hbal
              rw [hW]
              generalize slopeL a b = S at *
              simp (disch := omega) [hC1]
              refine impl_SlopeOfWord S _ _ (by omega) ?_
              rw [hsP, hsQ, hsC]
              intro N3 s3
              simp (disch := omega)
              refine impl_IsBal S _ _ (by omega) ?_
              rw [hwd, hwc, if_pos rfl, hbd]
              intro N4 s4
              simp (disch := omega) [tup2]
              refine impl_IsLyndon S _ _ hwd (by omega) hly ?_
              intro N5 s5
              simp (disch := omega) [tup2]
              exact ret_of (h _ (((sF.trans s3).trans s4).trans s5))
            · have hW : wosW p q = [] := by unfold wosW; rw [if_neg hC1]
              rw [hW]
              simp (disch := omega) [hC1]
              exact ret_of (h _ sF)
        · simp (disch := omega) [hC3]
          by_cases hC4 : sC w = 0
          · obtain ⟨e1, e2⟩ := word_back hC4
            simp (disch := omega) [hC4]
            refine impl_WordOfSlope _ _ _ _ ?_
            rw [e1, e2]
            simp (disch := omega) [tup2]
            by_cases hC1 : wosC p q = 0
            · obtain ⟨h2, h3⟩ := wosC_ok hC1
              obtain ⟨a, b, rfl, rfl, _, _, ha, hb, hg⟩ := slopeOk_is (by omega) h2
              have hW : wosW (a : Int) (b : Int) = slopeL a b := by unfold wosW; rw [if_pos hC1, Int.toNat_natCast, Int.toNat_natCast]
              obtain ⟨w1, w2, w3, w4⟩ := slope_back hg (by omega)
              have hpos := pos_of_gcd hg
              have hsC : sC (slopeL a b) = 0 := by unfold sC; rw [if_pos w1, if_pos w2]
              have hsP : sP (slopeL a b) = a := by unfold sP; rw [if_pos w1, if_pos w2, w3]
              have hsQ : sQ (slopeL a b) = b := by unfold sQ; rw [if_pos w1, if_pos w2, w4]
              have hwd := (Bool.and_eq_true_iff.1 w1).1
              have hwc : wcode (slopeL a b) = 0 := by unfold wcode; rw [hwd]; rfl
              have hbal : balM (slopeL a b) (slopeL a b).length ≤ 1 := step_bal hpos (by omega) 0 (a + b)
              have hln : (slopeL a b).length = a + b := stepL_len _ _ _ _
              have hly : ∀ k, 1 ≤ k → k < (slopeL a b).length → _ := fun k h1 h2 => slope_lyndon hg h1 (by rw [hln] at h2; exact h2)
              have hbd : decide (balM (slopeL a b) (slopeL a b).length ≤ 1) = true := decide_eq_true hbal
              rw [hW]
              generalize slopeL a b = S at *
              simp (disch := omega) [hC1]
              refine impl_SlopeOfWord S _ _ (by omega) ?_
              rw [hsP, hsQ, hsC]
              intro N3 s3
              simp (disch := omega)
              refine impl_IsBal S _ _ (by omega) ?_
              rw [hwd, hwc, if_pos rfl, hbd]
              intro N4 s4
              simp (disch := omega) [tup2]
              refine impl_IsLyndon S _ _ hwd (by omega) hly ?_
              intro N5 s5
              simp (disch := omega) [tup2]
              exact ret_of (h _ (((sF.trans s3).trans s4).trans s5))
            · have hW : wosW p q = [] := by unfold wosW; rw [if_neg hC1]
              rw [hW]
              simp (disch := omega) [hC1]
              exact ret_of (h _ sF)
          · simp (disch := omega) [hC4]
            by_cases hC1 : wosC p q = 0
            · obtain ⟨h2, h3⟩ := wosC_ok hC1
              obtain ⟨a, b, rfl, rfl, _, _, ha, hb, hg⟩ := slopeOk_is (by omega) h2
              have hW : wosW (a : Int) (b : Int) = slopeL a b := by unfold wosW; rw [if_pos hC1, Int.toNat_natCast, Int.toNat_natCast]
              obtain ⟨w1, w2, w3, w4⟩ := slope_back hg (by omega)
              have hpos := pos_of_gcd hg
              have hsC : sC (slopeL a b) = 0 := by unfold sC; rw [if_pos w1, if_pos w2]
              have hsP : sP (slopeL a b) = a := by unfold sP; rw [if_pos w1, if_pos w2, w3]
              have hsQ : sQ (slopeL a b) = b := by unfold sQ; rw [if_pos w1, if_pos w2, w4]
              have hwd := (Bool.and_eq_true_iff.1 w1).1
              have hwc : wcode (slopeL a b) = 0 := by unfold wcode; rw [hwd]; rfl
              have hbal : balM (slopeL a b) (slopeL a b).length ≤ 1 := step_bal hpos (by omega) 0 (a + b)
              have hln : (slopeL a b).length = a + b := stepL_len _ _ _ _
              have hly : ∀ k, 1 ≤ k → k < (slopeL a b).length → _ := fun k h1 h2 => slope_lyndon hg h1 (by rw [hln] at h2; exact h2)
              have hbd : decide (balM (slopeL a b) (slopeL a b).length ≤ 1) = true := decide_eq_true hbal
              rw [hW]
              generalize slopeL a b = S at *
              simp (disch := omega) [hC1]
              refine impl_SlopeOfWord S _ _ (by omega) ?_
              rw [hsP, hsQ, hsC]
              intro N3 s3
              simp (disch := omega)
              refine impl_IsBal S _ _ (by omega) ?_
              rw [hwd, hwc, if_pos rfl, hbd]
              intro N4 s4
              simp (disch := omega) [tup2]
              refine impl_IsLyndon S _ _ hwd (by omega) hly ?_
              intro N5 s5
              simp (disch := omega) [tup2]
              exact ret_of (h _ (((sF.trans s3).trans s4).trans s5))
            · have hW : wosW p q = [] := by unfold wosW; rw [if_neg hC1]
              rw [hW]
              simp (disch := omega) [hC1]
              exact ret_of (h _ sF)
      · simp (disch := omega) [hC2]
        by_cases hC3 : kC u = 0
        · obtain ⟨e1, e2, e3⟩ := kC_ok hC3
          have e4 := kA_len u
          simp (disch := omega) [hC3]
          refine impl_SlopeOfWord (kA u) _ _ (by omega) ?_
          intro N1 s1
          simp (disch := omega)
          refine impl_SlopeOfWord (kB u) _ _ (by omega) ?_
          intro N2 s2
          have sF := (sF.trans s1).trans s2
          clear s1 s2
          rw [e2, e3]
          generalize sP (kA u) = x1
          generalize sQ (kA u) = x2
          generalize sP (kB u) = x3
          generalize sQ (kB u) = x4
          simp (disch := omega) [e1]
          by_cases hC4 : sC w = 0
          · obtain ⟨e1, e2⟩ := word_back hC4
            simp (disch := omega) [hC4]
            refine impl_WordOfSlope _ _ _ _ ?_
            rw [e1, e2]
            simp (disch := omega) [tup2]
            by_cases hC1 : wosC p q = 0
            · obtain ⟨h2, h3⟩ := wosC_ok hC1
              obtain ⟨a, b, rfl, rfl, _, _, ha, hb, hg⟩ := slopeOk_is (by omega) h2
              have hW : wosW (a : Int) (b : Int) = slopeL a b := by unfold wosW; rw [if_pos hC1, Int.toNat_natCast, Int.toNat_natCast]
              obtain ⟨w1, w2, w3, w4⟩ := slope_back hg (by omega)
              have hpos := pos_of_gcd hg
              have hsC : sC (slopeL a b) = 0 := by unfold sC; rw [if_pos w1, if_pos w2]
              have hsP : sP (slopeL a b) = a := by unfold sP; rw [if_pos w1, if_pos w2, w3]
              have hsQ : sQ (slopeL a b) = b := by unfold sQ; rw [if_pos w1, if_pos w2, w4]
              have hwd := (Bool.and_eq_true_iff.1 w1).1
              have hwc : wcode (slopeL a b) = 0 := by unfold wcode; rw [hwd]; rfl
              have hbal : balM (slopeL a b) (slopeL a b).length ≤ 1 := step_bal hpos (by omega) 0 (a + b)
              have hln : (slopeL a b).length = a + b := stepL_len _ _ _ _
              have hly : ∀ k, 1 ≤ k → k < (slopeL a b).length → _ := fun k h1 h2 => slope_lyndon hg h1 (by rw [hln] at h2; exact h2)
              have hbd : decide (balM (slopeL a b) (slopeL a b).length ≤ 1) = true := decide_eq_true hbal
              rw [hW]
              generalize slopeL a b = S at *
              simp (disch := omega) [hC1]
              refine impl_SlopeOfWord S _ _ (by omega) ?_
              rw [hsP, hsQ, hsC]
              intro N3 s3
              simp (disch := omega)
              refine impl_IsBal S _ _ (by omega) ?_
              rw [hwd, hwc, if_pos rfl, hbd]
              intro N4 s4
              simp (disch := omega) [tup2]
              refine impl_IsLyndon S _ _ hwd (by omega) hly ?_
              intro N5 s5
              simp (disch := omega) [tup2]
              exact ret_of (h _ (((sF.trans s3).trans s4).trans s5))
            · have hW : wosW p q = [] := by unfold wosW; rw [if_neg hC1]
              rw [hW]
              simp (disch := omega) [hC1]
              exact ret_of (h _ sF)
          · simp (disch := omega) [hC4]
            by_cases hC1 : wosC p q = 0
            · obtain ⟨h2, h3⟩ := wosC_ok hC1
              obtain ⟨a, b, rfl, rfl, _, _, ha, hb, hg⟩ := slopeOk_is (by omega) h2
              have hW : wosW (a : Int) (b : Int) = slopeL a b := by unfold wosW; rw [if_pos hC1, Int.toNat_natCast, Int.toNat_natCast]
              obtain ⟨w1, w2, w3, w4⟩ := slope_back hg (by omega)
              have hpos := pos_of_gcd hg
              have hsC : sC (slopeL a b) = 0 := by unfold sC; rw [if_pos w1, if_pos w2]
              have hsP : sP (slopeL a b) = a := by unfold sP; rw [if_pos w1, if_pos w2, w3]
              have hsQ : sQ (slopeL a b) = b := by unfold sQ; rw [if_pos w1, if_pos w2, w4]
              have hwd := (Bool.and_eq_true_iff.1 w1).1
              have hwc : wcode (slopeL a b) = 0 := by unfold wcode; rw [hwd]; rfl
              have hbal : balM (slopeL a b) (slopeL a b).length ≤ 1 := step_bal hpos (by omega) 0 (a + b)
              have hln : (slopeL a b).length = a + b := stepL_len _ _ _ _
              have hly : ∀ k, 1 ≤ k → k < (slopeL a b).length → _ := fun k h1 h2 => slope_lyndon hg h1 (by rw [hln] at h2; exact h2)
              have hbd : decide (balM (slopeL a b) (slopeL a b).length ≤ 1) = true := decide_eq_true hbal
              rw [hW]
              generalize slopeL a b = S at *
              simp (disch := omega) [hC1]
              refine impl_SlopeOfWord S _ _ (by omega) ?_
              rw [hsP, hsQ, hsC]
              intro N3 s3
              simp (disch := omega)
              refine impl_IsBal S _ _ (by omega) ?_
              rw [hwd, hwc, if_pos rfl, hbd]
              intro N4 s4
              simp (disch := omega) [tup2]
              refine impl_IsLyndon S _ _ hwd (by omega) hly ?_
              intro N5 s5
              simp (disch := omega) [tup2]
              exact ret_of (h _ (((sF.trans s3).trans s4).trans s5))
            · have hW : wosW p q = [] := by unfold wosW; rw [if_neg hC1]
              rw [hW]
              simp (disch := omega) [hC1]
              exact ret_of (h _ sF)
        · simp (disch := omega) [hC3]
          by_cases hC4 : sC w = 0
          · obtain ⟨e1, e2⟩ := word_back hC4
            simp (disch := omega) [hC4]
            refine impl_WordOfSlope _ _ _ _ ?_
            rw [e1, e2]
            simp (disch := omega) [tup2]
            by_cases hC1 : wosC p q = 0
            · obtain ⟨h2, h3⟩ := wosC_ok hC1
              obtain ⟨a, b, rfl, rfl, _, _, ha, hb, hg⟩ := slopeOk_is (by omega) h2
              have hW : wosW (a : Int) (b : Int) = slopeL a b := by unfold wosW; rw [if_pos hC1, Int.toNat_natCast, Int.toNat_natCast]
              obtain ⟨w1, w2, w3, w4⟩ := slope_back hg (by omega)
              have hpos := pos_of_gcd hg
              have hsC : sC (slopeL a b) = 0 := by unfold sC; rw [if_pos w1, if_pos w2]
              have hsP : sP (slopeL a b) = a := by unfold sP; rw [if_pos w1, if_pos w2, w3]
              have hsQ : sQ (slopeL a b) = b := by unfold sQ; rw [if_pos w1, if_pos w2, w4]
              have hwd := (Bool.and_eq_true_iff.1 w1).1
              have hwc : wcode (slopeL a b) = 0 := by unfold wcode; rw [hwd]; rfl
              have hbal : balM (slopeL a b) (slopeL a b).length ≤ 1 := step_bal hpos (by omega) 0 (a + b)
              have hln : (slopeL a b).length = a + b := stepL_len _ _ _ _
              have hly : ∀ k, 1 ≤ k → k < (slopeL a b).length → _ := fun k h1 h2 => slope_lyndon hg h1 (by rw [hln] at h2; exact h2)
              have hbd : decide (balM (slopeL a b) (slopeL a b).length ≤ 1) = true := decide_eq_true hbal
              rw [hW]
              generalize slopeL a b = S at *
              simp (disch := omega) [hC1]
              refine impl_SlopeOfWord S _ _ (by omega) ?_
              rw [hsP, hsQ, hsC]
              intro N3 s3
              simp (disch := omega)
              refine impl_IsBal S _ _ (by omega) ?_
              rw [hwd, hwc, if_pos rfl, hbd]
              intro N4 s4
              simp (disch := omega) [tup2]
              refine impl_IsLyndon S _ _ hwd (by omega) hly ?_
              intro N5 s5
              simp (disch := omega) [tup2]
              exact ret_of (h _ (((sF.trans s3).trans s4).trans s5))
            · have hW : wosW p q = [] := by unfold wosW; rw [if_neg hC1]
              rw [hW]
              simp (disch := omega) [hC1]
              exact ret_of (h _ sF)
          · simp (disch := omega) [hC4]
            by_cases hC1 : wosC p q = 0
            · obtain ⟨h2, h3⟩ := wosC_ok hC1
              obtain ⟨a, b, rfl, rfl, _, _, ha, hb, hg⟩ := slopeOk_is (by omega) h2
              have hW : wosW (a : Int) (b : Int) = slopeL a b := by unfold wosW; rw [if_pos hC1, Int.toNat_natCast, Int.toNat_natCast]
              obtain ⟨w1, w2, w3, w4⟩ := slope_back hg (by omega)
              have hpos := pos_of_gcd hg
              have hsC : sC (slopeL a b) = 0 := by unfold sC; rw [if_pos w1, if_pos w2]
              have hsP : sP (slopeL a b) = a := by unfold sP; rw [if_pos w1, if_pos w2, w3]
              have hsQ : sQ (slopeL a b) = b := by unfold sQ; rw [if_pos w1, if_pos w2, w4]
              have hwd := (Bool.and_eq_true_iff.1 w1).1
              have hwc : wcode (slopeL a b) = 0 := by unfold wcode; rw [hwd]; rfl
              have hbal : balM (slopeL a b) (slopeL a b).length ≤ 1 := step_bal hpos (by omega) 0 (a + b)
              have hln : (slopeL a b).length = a + b := stepL_len _ _ _ _
              have hly : ∀ k, 1 ≤ k → k < (slopeL a b).length → _ := fun k h1 h2 => slope_lyndon hg h1 (by rw [hln] at h2; exact h2)
              have hbd : decide (balM (slopeL a b) (slopeL a b).length ≤ 1) = true := decide_eq_true hbal
              rw [hW]
              generalize slopeL a b = S at *
              simp (disch := omega) [hC1]
              refine impl_SlopeOfWord S _ _ (by omega) ?_
              rw [hsP, hsQ, hsC]
              intro N3 s3
              simp (disch := omega)
              refine impl_IsBal S _ _ (by omega) ?_
              rw [hwd, hwc, if_pos rfl, hbd]
              intro N4 s4
              simp (disch := omega) [tup2]
              refine impl_IsLyndon S _ _ hwd (by omega) hly ?_
              intro N5 s5
              simp (disch := omega) [tup2]
              exact ret_of (h _ (((sF.trans s3).trans s4).trans s5))
            · have hW : wosW p q = [] := by unfold wosW; rw [if_neg hC1]
              rw [hW]
              simp (disch := omega) [hC1]
              exact ret_of (h _ sF)
    · obtain ⟨j, rfl⟩ : ∃ j, i = j + 1 := ⟨i - 1, by omega⟩
      have hx : P[j]? = some P[j] := List.getElem?_eq_getElem (by omega)
      have hdr : P.drop j = P[j] :: P.drop (j + 1) := List.drop_eq_getElem_cons (by omega)
      have hbj := hbd j
      have hbj1 := hbd (j + 1)
      have hj1 : ((j + 1 : Nat) : Int) - 1 = j := by omega
      rw [hj1]
      rw [hdr] at hbj
      have hjl : j < P.length := by omega
      by_cases hy : P[j] = 97
      · rw [show backN (P[j] :: P.drop (j + 1)) = ((backN (P.drop (j + 1))).1, (backN (P.drop (j + 1))).1 + (backN (P.drop (j + 1))).2) from if_pos hy] at hbj
        have hb2 : backN (P.drop j) = ((backN (P.drop (j + 1))).1, (backN (P.drop (j + 1))).1 + (backN (P.drop (j + 1))).2) := by rw [hdr]; exact if_pos hy
        have hyI : (P[j].toNat : Int) = 97 := by rw [hy]; rfl
        generalize hbb : backN (P.drop (j + 1)) = z at *
        obtain ⟨z1, z2⟩ := z
        simp only at hbj hb2 ⊢
        simp (disch := omega) [hx, hyI]
        refine Rnd.mk' j (by omega) (by (repeat (first | exact km | refine kp rfl ?_ | refine km' rfl ?_))) (by simp (disch := omega) [hb2]) ⟨rfl, by omega⟩
      · rw [show backN (P[j] :: P.drop (j + 1)) = ((backN (P.drop (j + 1))).1 + (backN (P.drop (j + 1))).2, (backN (P.drop (j + 1))).2) from if_neg hy] at hbj
        have hb2 : backN (P.drop j) = ((backN (P.drop (j + 1))).1 + (backN (P.drop (j + 1))).2, (backN (P.drop (j + 1))).2) := by rw [hdr]; exact if_neg hy
        have hyI : ¬ (P[j].toNat : Int) = 97 := fun e => hy (UInt8.toNat_inj.1 (by show P[j].toNat = 97; omega))
        generalize hbb : backN (P.drop (j + 1)) = z at *
        obtain ⟨z1, z2⟩ := z
        simp only at hbj hb2 ⊢
        simp (disch := omega) [hx, hyI]
        refine Rnd.mk' j (by omega) (by (repeat (first | exact km | refine kp rfl ?_ | refine km' rfl ?_))) (by simp (disch := omega) [hb2]) ⟨rfl, by omega⟩
  · simp (disch := omega) [hC0]
    by_cases hC2 : cenC p q = 0
    · obtain ⟨h2, h3⟩ := cenC_ok hC2
      have hsv := slopeOk_is (by omega) h2
      obtain ⟨a, b, hpa, hqb, hp1, hq1, ha, hb, hg⟩ := hsv
      have hcw : cenW p q = ((slopeL a b).take (a + b - 1)).tail := by unfold cenW; rw [if_pos hC2, hpa, hqb, Int.toNat_natCast, Int.toNat_natCast]
      have hcl := central_len (p := a) (q := b) (by omega) (by omega)
      have hcp := central_pal hg (by omega) (by omega)
      have hcd : isWord ((slopeL a b).take (a + b - 1)).tail = true := by
        refine (Bool.and_eq_true_iff.1 (ab_isAB (w := ((slopeL a b).take (a + b - 1)).tail) (fun x hx => ?_) (by rw [hcl]; omega))).1
        exact stepL_ab _ _ _ _ x (List.mem_of_mem_take (List.mem_of_mem_tail hx))
      have hcc : wcode ((slopeL a b).take (a + b - 1)).tail = 0 := by unfold wcode; rw [hcd]; rfl
      rw [hcw]
      generalize ((slopeL a b).take (a + b - 1)).tail = C at *
      have hsum : (p + q) - 2 = (C.length : Int) := by omega
      have hsum2 : ((C.length : Int) != (p + q) - 2) = false := by rw [hsum]; simp
      simp (disch := omega) [hC2]
      refine impl_IsPalindrome C _ _ (by omega) ?_
      rw [hcd, hcp, hcc]
      intro N1 s1
      have sF := sF.trans s1
      clear s1
      have hpr : -5000 ≤ p ∧ p ≤ 5000 ∧ -5000 ≤ q ∧ q ≤ 5000 := by omega
      simp (disch := omega) [tup2, hsum, hsum2]
      by_cases hC3 : kC u = 0
      · obtain ⟨e1, e2, e3⟩ := kC_ok hC3
        have e4 := kA_len u
        simp (disch := omega) [hC3]
        refine impl_SlopeOfWord (kA u) _ _ (by omega) ?_
        intro N1 s1
        simp (disch := omega)
        refine impl_SlopeOfWord (kB u) _ _ (by omega) ?_
        intro N2 s2
        have sF := (sF.trans s1).trans s2
        clear s1 s2
        rw [e2, e3]
        generalize sP (kA u) = x1
        generalize sQ (kA u) = x2
        generalize sP (kB u) = x3
        generalize sQ (kB u) = x4
        simp (disch := omega) [e1]
        by_cases hC4 : sC w = 0
        · obtain ⟨e1, e2⟩ := word_back hC4
          simp (disch := omega) [hC4]
          refine impl_WordOfSlope _ _ _ _ ?_
          rw [e1, e2]
          simp (disch := omega) [tup2]
          by_cases hC1 : wosC p q = 0
          · obtain ⟨h2, h3⟩ := wosC_ok hC1
            obtain ⟨a, b, rfl, rfl, _, _, ha, hb, hg⟩ := slopeOk_is (by omega) h2
            have hW : wosW (a : Int) (b : Int) = slopeL a b := by unfold wosW; rw [if_pos hC1, Int.toNat_natCast, Int.toNat_natCast]
            obtain ⟨w1, w2, w3, w4⟩ := slope_back hg (by omega)
            have hpos := pos_of_gcd hg
            have hsC : sC (slopeL a b) = 0 := by unfold sC; rw [if_pos w1, if_pos w2]
            have hsP : sP (slopeL a b) = a := by unfold sP; rw [if_pos w1, if_pos w2, w3]
            have hsQ : sQ (slopeL a b) = b := by unfold sQ; rw [if_pos w1, if_pos w2, w4]
            have hwd := (Bool.and_eq_true_iff.1 w1).1
            have hwc : wcode (slopeL a b) = 0 := by unfold wcode; rw [hwd]; rfl
            have hbal : balM (slopeL a b) (slopeL a b).length ≤ 1 := step_bal hpos (by omega) 0 (a + b)
            have hln : (slopeL a b).length = a + b := stepL_len _ _ _ _
            have hly : ∀ k, 1 ≤ k → k < (slopeL a b).length → _ := fun k h1 h2 => slope_lyndon hg h1 (by rw [hln] at h2; exact h2)
            have hbd : decide (balM (slopeL a b) (slopeL a b).length ≤ 1) = true := decide_eq_true hbal
            rw [hW]
            generalize slopeL a b = S at *
            simp (disch := omega) [hC1]
            refine impl_SlopeOfWord S _ _ (by omega) ?_
            rw [hsP, hsQ, hsC]
            intro N3 s3
            simp (disch := omega)
            refine impl_IsBal S _ _ (by omega) ?_
            rw [hwd, hwc, if_pos rfl, hbd]
            intro N4 s4
            simp (disch := omega) [tup2]
            refine impl_IsLyndon S _ _ hwd (by omega) hly ?_
            intro N5 s5
            simp (disch := omega) [tup2]
            exact ret_of (h _ (((sF.trans s3).trans s4).trans s5))
          · have hW : wosW p q = [] := by unfold wosW; rw [if_neg hC1]
            rw [hW]
            simp (disch := omega) [hC1]
            exact ret_of (h _ sF)
        · simp (disch := omega) [hC4]
          by_cases hC1 : wosC p q = 0
          · obtain ⟨h2, h3⟩ := wosC_ok hC1
            obtain ⟨a, b, rfl, rfl, _, _, ha, hb, hg⟩ := slopeOk_is (by omega) h2
            have hW : wosW (a : Int) (b : Int) = slopeL a b := by unfold wosW; rw [if_pos hC1, Int.toNat_natCast, Int.toNat_natCast]
            obtain ⟨w1, w2, w3, w4⟩ := slope_back hg (by omega)
            have hpos := pos_of_gcd hg
            have hsC : sC (slopeL a b) = 0 := by unfold sC; rw [if_pos w1, if_pos w2]
            have hsP : sP (slopeL a b) = a := by unfold sP; rw [if_pos w1, if_pos w2, w3]
            have hsQ : sQ (slopeL a b) = b := by unfold sQ; rw [if_pos w1, if_pos w2, w4]
            have hwd := (Bool.and_eq_true_iff.1 w1).1
            have hwc : wcode (slopeL a b) = 0 := by unfold wcode; rw [hwd]; rfl
            have hbal : balM (slopeL a b) (slopeL a b).length ≤ 1 := step_bal hpos (by omega) 0 (a + b)
            have hln : (slopeL a b).length = a + b := stepL_len _ _ _ _
            have hly : ∀ k, 1 ≤ k → k < (slopeL a b).length → _ := fun k h1 h2 => slope_lyndon hg h1 (by rw [hln] at h2; exact h2)
            have hbd : decide (balM (slopeL a b) (slopeL a b).length ≤ 1) = true := decide_eq_true hbal
            rw [hW]
            generalize slopeL a b = S at *
            simp (disch := omega) [hC1]
            refine impl_SlopeOfWord S _ _ (by omega) ?_
            rw [hsP, hsQ, hsC]
            intro N3 s3
            simp (disch := omega)
            refine impl_IsBal S _ _ (by omega) ?_
            rw [hwd, hwc, if_pos rfl, hbd]
            intro N4 s4
            simp (disch := omega) [tup2]
            refine impl_IsLyndon S _ _ hwd (by omega) hly ?_
            intro N5 s5
            simp (disch := omega) [tup2]
            exact ret_of (h _ (((sF.trans s3).trans s4).trans s5))
          · have hW : wosW p q = [] := by unfold wosW; rw [if_neg hC1]
            rw [hW]
            simp (disch := omega) [hC1]
            exact ret_of (h _ sF)
      · simp (disch := omega) [hC3]
        by_cases hC4 : sC w = 0
        · obtain ⟨e1, e2⟩ := word_back hC4
          simp (disch := omega) [hC4]
          refine impl_WordOfSlope _ _ _ _ ?_
          rw [e1, e2]
          simp (disch := omega) [tup2]
          by_cases hC1 : wosC p q = 0
          · obtain ⟨h2, h3⟩ := wosC_ok hC1
            obtain ⟨a, b, rfl, rfl, _, _, ha, hb, hg⟩ := slopeOk_is (by omega) h2
            have hW : wosW (a : Int) (b : Int) = slopeL a b := by unfold wosW; rw [if_pos hC1, Int.toNat_natCast, Int.toNat_natCast]
            obtain ⟨w1, w2, w3, w4⟩ := slope_back hg (by omega)
            have hpos := pos_of_gcd hg
            have hsC : sC (slopeL a b) = 0 := by unfold sC; rw [if_pos w1, if_pos w2]
            have hsP : sP (slopeL a b) = a := by unfold sP; rw [if_pos w1, if_pos w2, w3]
            have hsQ : sQ (slopeL a b) = b := by unfold sQ; rw [if_pos w1, if_pos w2, w4]
            have hwd := (Bool.and_eq_true_iff.1 w1).1
            have hwc : wcode (slopeL a b) = 0 := by unfold wcode; rw [hwd]; rfl
            have hbal : balM (slopeL a b) (slopeL a b).length ≤ 1 := step_bal hpos (by omega) 0 (a + b)
            have hln : (slopeL a b).length = a + b := stepL_len _ _ _ _
            have hly : ∀ k, 1 ≤ k → k < (slopeL a b).length → _ := fun k h1 h2 => slope_lyndon hg h1 (by rw [hln] at h2; exact h2)
            have hbd : decide (balM (slopeL a b) (slopeL a b).length ≤ 1) = true := decide_eq_true hbal
            rw [hW]
            generalize slopeL a b = S at *
            simp (disch := omega) [hC1]
            refine impl_SlopeOfWord S _ _ (by omega) ?_
            rw [hsP, hsQ, hsC]
            intro N3 s3
            simp (disch := omega)
            refine impl_IsBal S _ _ (by omega) ?_
            rw [hwd, hwc, if_pos rfl, hbd]
            intro N4 s4
            simp (disch := omega) [tup2]
            refine impl_IsLyndon S _ _ hwd (by omega) hly ?_
            intro N5 s5
            simp (disch := omega) [tup2]
            exact ret_of (h _ (((sF.trans s3).trans s4).trans s5))
          · have hW : wosW p q = [] := by unfold wosW; rw [if_neg hC1]
            rw [hW]
            simp (disch := omega) [hC1]
            exact ret_of (h _ sF)
        · simp (disch := omega) [hC4]
          by_cases hC1 : wosC p q = 0
          · obtain ⟨h2, h3⟩ := wosC_ok hC1
            obtain ⟨a, b, rfl, rfl, _, _, ha, hb, hg⟩ := slopeOk_is (by omega) h2
            have hW : wosW (a : Int) (b : Int) = slopeL a b := by unfold wosW; rw [if_pos hC1, Int.toNat_natCast, Int.toNat_natCast]
            obtain ⟨w1, w2, w3, w4⟩ := slope_back hg (by omega)
            have hpos := pos_of_gcd hg
            have hsC : sC (slopeL a b) = 0 := by unfold sC; rw [if_pos w1, if_pos w2]
            have hsP : sP (slopeL a b) = a := by unfold sP; rw [if_pos w1, if_pos w2, w3]
            have hsQ : sQ (slopeL a b) = b := by unfold sQ; rw [if_pos w1, if_pos w2, w4]
            have hwd := (Bool.and_eq_true_iff.1 w1).1
            have hwc : wcode (slopeL a b) = 0 := by unfold wcode; rw [hwd]; rfl
            have hbal : balM (slopeL a b) (slopeL a b).length ≤ 1 := step_bal hpos (by omega) 0 (a + b)
            have hln : (slopeL a b).length = a + b := stepL_len _ _ _ _
            have hly : ∀ k, 1 ≤ k → k < (slopeL a b).length → _ := fun k h1 h2 => slope_lyndon hg h1 (by rw [hln] at h2; exact h2)
            have hbd : decide (balM (slopeL a b) (slopeL a b).length ≤ 1) = true := decide_eq_true hbal
            rw [hW]
            generalize slopeL a b = S at *
            simp (disch := omega) [hC1]
            refine impl_SlopeOfWord S _ _ (by omega) ?_
            rw [hsP, hsQ, hsC]
            intro N3 s3
            simp (disch := omega)
            refine impl_IsBal S _ _ (by omega) ?_
            rw [hwd, hwc, if_pos rfl, hbd]
            intro N4 s4
            simp (disch := omega) [tup2]
            refine impl_IsLyndon S _ _ hwd (by omega) hly ?_
            intro N5 s5
            simp (disch := omega) [tup2]
            exact ret_of (h _ (((sF.trans s3).trans s4).trans s5))
          · have hW : wosW p q = [] := by unfold wosW; rw [if_neg hC1]
            rw [hW]
            simp (disch := omega) [hC1]
            exact ret_of (h _ sF)
    · simp (disch := omega) [hC2]
      by_cases hC3 : kC u = 0
      · obtain ⟨e1, e2, e3⟩ := kC_ok hC3
        have e4 := kA_len u
        simp (disch := omega) [hC3]
        refine impl_SlopeOfWord (kA u) _ _ (by omega) ?_
        intro N1 s1
        simp (disch := omega)
        refine impl_SlopeOfWord (kB u) _ _ (by omega) ?_
        intro N2 s2
        have sF := (sF.trans s1).trans s2
        clear s1 s2
        rw [e2, e3]
        generalize sP (kA u) = x1
        generalize sQ (kA u) = x2
        generalize sP (kB u) = x3
        generalize sQ (kB u) = x4
        simp (disch := omega) [e1]
        by_cases hC4 : sC w = 0
        · obtain ⟨e1, e2⟩ := word_back hC4
          simp (disch := omega) [hC4]
          refine impl_WordOfSlope _ _ _ _ ?_
          rw [e1, e2]
          simp (disch := omega) [tup2]
          by_cases hC1 : wosC p q = 0
          · obtain ⟨h2, h3⟩ := wosC_ok hC1
            obtain ⟨a, b, rfl, rfl, _, _, ha, hb, hg⟩ := slopeOk_is (by omega) h2
            have hW : wosW (a : Int) (b : Int) = slopeL a b := by unfold wosW; rw [if_pos hC1, Int.toNat_natCast, Int.toNat_natCast]
            obtain ⟨w1, w2, w3, w4⟩ := slope_back hg (by omega)
            have hpos := pos_of_gcd hg
            have hsC : sC (slopeL a b) = 0 := by unfold sC; rw [if_pos w1, if_pos w2]
            have hsP : sP (slopeL a b) = a := by unfold sP; rw [if_pos w1, if_pos w2, w3]
            have hsQ : sQ (slopeL a b) = b := by unfold sQ; rw [if_pos w1, if_pos w2, w4]
            have hwd := (Bool.and_eq_true_iff.1 w1).1
            have hwc : wcode (slopeL a b) = 0 := by unfold wcode; rw [hwd]; rfl
            have hbal : balM (slopeL a b) (slopeL a b).length ≤ 1 := step_bal hpos (by omega) 0 (a + b)
            have hln : (slopeL a b).length = a + b := stepL_len _ _ _ _
            have hly : ∀ k, 1 ≤ k → k < (slopeL a b).length → _ := fun k h1 h2 => slope_lyndon hg h1 (by rw [hln] at h2; exact h2)
            have hbd : decide (balM (slopeL a b) (slopeL a b).length ≤ 1) = true := decide_eq_true hbal
            rw [hW]
            generalize slopeL a b = S at *
            simp (disch := omega) [hC1]
            refine impl_SlopeOfWord S _ _ (by omega) ?_
            rw [hsP, hsQ, hsC]
            intro N3 s3
            simp (disch := omega)
            refine impl_IsBal S _ _ (by omega) ?_
            rw [hwd, hwc, if_pos rfl, hbd]
            intro N4 s4
            simp (disch := omega) [tup2]
            refine impl_IsLyndon S _ _ hwd (by omega) hly ?_
            intro N5 s5
            simp (disch := omega) [tup2]
            exact ret_of (h _ (((sF.trans s3).trans s4).trans s5))
          · have hW : wosW p q = [] := by unfold wosW; rw [if_neg hC1]
            rw [hW]
            simp (disch := omega) [hC1]
            exact ret_of (h _ sF)
        · simp (disch := omega) [hC4]
          by_cases hC1 : wosC p q = 0
          · obtain ⟨h2, h3⟩ := wosC_ok hC1
            obtain ⟨a, b, rfl, rfl, _, _, ha, hb, hg⟩ := slopeOk_is (by omega) h2
            have hW : wosW (a : Int) (b : Int) = slopeL a b := by unfold wosW; rw [if_pos hC1, Int.toNat_natCast, Int.toNat_natCast]
            obtain ⟨w1, w2, w3, w4⟩ := slope_back hg (by omega)
            have hpos := pos_of_gcd hg
            have hsC : sC (slopeL a b) = 0 := by unfold sC; rw [if_pos w1, if_pos w2]
            have hsP : sP (slopeL a b) = a := by unfold sP; rw [if_pos w1, if_pos w2, w3]
            have hsQ : sQ (slopeL a b) = b := by unfold sQ; rw [if_pos w1, if_pos w2, w4]
            have hwd := (Bool.and_eq_true_iff.1 w1).1
            have hwc : wcode (slopeL a b) = 0 := by unfold wcode; rw [hwd]; rfl
            have hbal : balM (slopeL a b) (slopeL a b).length ≤ 1 := step_bal hpos (by omega) 0 (a + b)
            have hln : (slopeL a b).length = a + b := stepL_len _ _ _ _
            have hly : ∀ k, 1 ≤ k → k < (slopeL a b).length → _ := fun k h1 h2 => slope_lyndon hg h1 (by rw [hln] at h2; exact h2)
            have hbd : decide (balM (slopeL a b) (slopeL a b).length ≤ 1) = true := decide_eq_true hbal
            rw [hW]
            generalize slopeL a b = S at *
            simp (disch := omega) [hC1]
            refine impl_SlopeOfWord S _ _ (by omega) ?_
            rw [hsP, hsQ, hsC]
            intro N3 s3
            simp (disch := omega)
            refine impl_IsBal S _ _ (by omega) ?_
            rw [hwd, hwc, if_pos rfl, hbd]
            intro N4 s4
            simp (disch := omega) [tup2]
            refine impl_IsLyndon S _ _ hwd (by omega) hly ?_
            intro N5 s5
            simp (disch := omega) [tup2]
            exact ret_of (h _ (((sF.trans s3).trans s4).trans s5))
          · have hW : wosW p q = [] := by unfold wosW; rw [if_neg hC1]
            rw [hW]
            simp (disch := omega) [hC1]
            exact ret_of (h _ sF)
      · simp (disch := omega) [hC3]
        by_cases hC4 : sC w = 0
        · obtain ⟨e1, e2⟩ := word_back hC4
          simp (disch := omega) [hC4]
          refine impl_WordOfSlope _ _ _ _ ?_
          rw [e1, e2]
          simp (disch := omega) [tup2]
          by_cases hC1 : wosC p q = 0
          · obtain ⟨h2, h3⟩ := wosC_ok hC1
            obtain ⟨a, b, rfl, rfl, _, _, ha, hb, hg⟩ := slopeOk_is (by omega) h2
            have hW : wosW (a : Int) (b : Int) = slopeL a b := by unfold wosW; rw [if_pos hC1, Int.toNat_natCast, Int.toNat_natCast]
            obtain ⟨w1, w2, w3, w4⟩ := slope_back hg (by omega)
            have hpos := pos_of_gcd hg
            have hsC : sC (slopeL a b) = 0 := by unfold sC; rw [if_pos w1, if_pos w2]
            have hsP : sP (slopeL a b) = a := by unfold sP; rw [if_pos w1, if_pos w2, w3]
            have hsQ : sQ (slopeL a b) = b := by unfold sQ; rw [if_pos w1, if_pos w2, w4]
            have hwd := (Bool.and_eq_true_iff.1 w1).1
            have hwc : wcode (slopeL a b) = 0 := by unfold wcode; rw [hwd]; rfl
            have hbal : balM (slopeL a b) (slopeL a b).length ≤ 1 := step_bal hpos (by omega) 0 (a + b)
            have hln : (slopeL a b).length = a + b := stepL_len _ _ _ _
            have hly : ∀ k, 1 ≤ k → k < (slopeL a b).length → _ := fun k h1 h2 => slope_lyndon hg h1 (by rw [hln] at h2; exact h2)
            have hbd : decide (balM (slopeL a b) (slopeL a b).length ≤ 1) = true := decide_eq_true hbal
            rw [hW]
            generalize slopeL a b = S at *
            simp (disch := omega) [hC1]
            refine impl_SlopeOfWord S _ _ (by omega) ?_
            rw [hsP, hsQ, hsC]
            intro N3 s3
            simp (disch := omega)
            refine impl_IsBal S _ _ (by omega) ?_
            rw [hwd, hwc, if_pos rfl, hbd]
            intro N4 s4
            simp (disch := omega) [tup2]
            refine impl_IsLyndon S _ _ hwd (by omega) hly ?_
            intro N5 s5
            simp (disch := omega) [tup2]
            exact ret_of (h _ (((sF.trans s3).trans s4).trans s5))
          · have hW : wosW p q = [] := by unfold wosW; rw [if_neg hC1]
            rw [hW]
            simp (disch := omega) [hC1]
            exact ret_of (h _ sF)
        · simp (disch := omega) [hC4]
          by_cases hC1 : wosC p q = 0
          · obtain ⟨h2, h3⟩ := wosC_ok hC1
            obtain ⟨a, b, rfl, rfl, _, _, ha, hb, hg⟩ := slopeOk_is (by omega) h2
            have hW : wosW (a : Int) (b : Int) = slopeL a b := by unfold wosW; rw [if_pos hC1, Int.toNat_natCast, Int.toNat_natCast]
            obtain ⟨w1, w2, w3, w4⟩ := slope_back hg (by omega)
            have hpos := pos_of_gcd hg
            have hsC : sC (slopeL a b) = 0 := by unfold sC; rw [if_pos w1, if_pos w2]
            have hsP : sP (slopeL a b) = a := by unfold sP; rw [if_pos w1, if_pos w2, w3]
            have hsQ : sQ (slopeL a b) = b := by unfold sQ; rw [if_pos w1, if_pos w2, w4]
            have hwd := (Bool.and_eq_true_iff.1 w1).1
            have hwc : wcode (slopeL a b) = 0 := by unfold wcode; rw [hwd]; rfl
            have hbal : balM (slopeL a b) (slopeL a b).length ≤ 1 := step_bal hpos (by omega) 0 (a + b)
            have hln : (slopeL a b).length = a + b := stepL_len _ _ _ _
            have hly : ∀ k, 1 ≤ k → k < (slopeL a b).length → _ := fun k h1 h2 => slope_lyndon hg h1 (by rw [hln] at h2; exact h2)
            have hbd : decide (balM (slopeL a b) (slopeL a b).length ≤ 1) = true := decide_eq_true hbal
            rw [hW]
            generalize slopeL a b = S at *
            simp (disch := omega) [hC1]
            refine impl_SlopeOfWord S _ _ (by omega) ?_
            rw [hsP, hsQ, hsC]
            intro N3 s3
            simp (disch := omega)
            refine impl_IsBal S _ _ (by omega) ?_
            rw [hwd, hwc, if_pos rfl, hbd]
            intro N4 s4
            simp (disch := omega) [tup2]
            refine impl_IsLyndon S _ _ hwd (by omega) hly ?_
            intro N5 s5
            simp (disch := omega) [tup2]
            exact ret_of (h _ (((sF.trans s3).trans s4).trans s5))
          · have hW : wosW p q = [] := by unfold wosW; rw [if_neg hC1]
            rw [hW]
            simp (disch := omega) [hC1]
            exact ret_of (h _ sF)
end Go.Proofs.YticejlplbibegaaGreatDoor

/- Law: first words avoid patterns; unavoidable patterns are in Zimin words. -/
import Derived.Test.YticejlplbibegaaC75
import Derived.Test.YticejlplbibegaaC74
namespace Go.Proofs.Yticejlplbibegaa
open Go
set_option linter.unusedSimpArgs false
set_option linter.unusedVariables false

set_option maxRecDepth 4000 in
set_option maxHeartbeats 4000000 in
theorem law_FnAvoiding (v : Value) (xs : List UInt8) (M : Mem) (R : Value → Mem → Prop) (hv : Rd M v (bytesV xs)) (hl : xs.length ≤ 9223372036854775807) (h : ∀ M', Sub M M' → R (.bool true) M') : Does Try.prog 4 [v] M R := by
  refine does_fn tab_ok Try.func4 rfl (by kernel_rfl) (by kernel_rfl) Try.ntmps4 Try.results4 rfl ?_
  simp (disch := omega)
  refine big_does v xs _ _ hv hl ?_
  by_cases hb : 4096 < xs.length
  · rw [decide_eq_true hb]
    simp (disch := omega)
    exact ret_of (h _ (Sub.refl _))
  rw [decide_eq_false hb]
  simp (disch := omega)
  refine drawFA_does v xs _ _ hv (by omega) ?_
  intro p k n M1 sF hp hk hn
  simp (disch := omega)
  refine impl_FirstAvoiding p k n _ _ (by omega) ?_
  intro M2 s2
  have sF := sF.trans s2
  simp (disch := omega) [tup2]
  refine spec_FirstAvoiding p k n _ _ (by omega) ?_
  simp (disch := omega) [tup2]
  refine drawCA_does v xs _ _ (hv.sub sF) (by omega) ?_
  intro q l m M3 s3 hq hl' hm
  have sF := sF.trans s3
  simp (disch := omega)
  refine impl_CountAvoiding q l m _ _ (by omega) ?_
  intro M4 s4
  have sF := sF.trans s4
  simp (disch := omega) [tup2]
  refine spec_CountAvoiding q l m _ _ (by omega) ?_
  simp (disch := omega) [tup2]
  refine drawLAv_does v xs _ _ (hv.sub sF) (by omega) ?_
  intro r wd M5 s5 hr hwd
  have sF := sF.trans s5
  simp (disch := omega)
  refine impl_LongestAvoiding r wd _ _ (by omega) ?_
  simp (disch := omega) [tup2]
  refine spec_LongestAvoiding r wd _ _ (by omega) ?_
  simp (disch := omega) [tup2]
  refine drawZW_does v xs _ _ (hv.sub sF) (by omega) ?_
  intro z M6 s6 hz
  have sF := sF.trans s6
  simp (disch := omega)
  refine impl_ZiminWord z _ _ ?_
  simp (disch := omega) [tup2]
  refine spec_ZiminWord z _ _ ?_
  simp (disch := omega) [tup2]
  refine drawIU_does v xs _ _ (hv.sub sF) (by omega) ?_
  intro s M7 s7 hs
  have sF := sF.trans s7
  simp (disch := omega)
  refine impl_IsUnavoidable s _ _ (by omega) ?_
  intro M8 s8
  have sF := sF.trans s8
  simp (disch := omega) [tup2]
  refine spec_IsUnavoidable s _ _ (by omega) ?_
  intro M9 s9
  have sF := sF.trans s9
  simp (disch := omega) [tup2]
  refine isPattern_does s _ _ (by omega) ?_
  simp (disch := omega)
  refine spec_IsPattern s _ _ (by omega) ?_
  simp (disch := omega)
  cases hu : unavB s
  · by_cases u0 : unavC s = 0
    · simp (disch := omega) [u0]
      by_cases z0 : zimC z = 0
      · have z1 : 1 ≤ z ∧ z ≤ 5 := by
          unfold zimC at z0
          by_cases hz : 1 ≤ z ∧ z ≤ 5
          · exact hz
          · rw [decide_eq_false hz] at z0; exact absurd z0 (by decide)
        have zt : zimT z = zimF z.toNat := by unfold zimT; rw [decide_eq_true z1]; rfl
        have zs := zimF_size z.toNat (by omega)
        have zsh : IntKind.i64.wrap (2 ^ (min (IntKind.u64.wrap z).toNat IntKind.i64.bits)) = ((zimF z.toNat).length : Nat) + 1 := by
          obtain ⟨zn, rfl⟩ : ∃ i : Nat, z = i := ⟨z.toNat, by omega⟩
          have : zn = 1 ∨ zn = 2 ∨ zn = 3 ∨ zn = 4 ∨ zn = 5 := by omega
          rcases this with rfl | rfl | rfl | rfl | rfl <;> decide
        have zl : (zimF z.toNat).length ≤ 31 := zimF_len _ (by omega)
        have zu : IntKind.u64.wrap z = z := wrap_u64 (by omega) (by omega)
        rw [zt]
        generalize zimF z.toNat = zf at *
        simp (disch := omega) [z0, zsh]
        by_cases l0 : longC r wd = 0
        · obtain ⟨g1, g2, g3, g4⟩ := long_first l0
          simp (disch := omega) [l0]
          refine impl_FirstAvoiding r wd (longT r wd) _ _ (by omega) ?_
          intro N6 t6
          have sF := sF.trans t6
          generalize longT r wd = lt at *
          simp (disch := omega) [tup2, g1]
          refine impl_FirstAvoiding r wd (lt + 1) _ _ (by omega) ?_
          intro N7 t7
          have sF := sF.trans t7
          simp (disch := omega) [tup2, g1, g2]
          by_cases c0 : cntC q l m = 0
          · have cf := cnt_first c0
            simp (disch := omega) [c0]
            refine impl_FirstAvoiding q l m _ _ (by omega) ?_
            intro N8 t8
            have sF := sF.trans t8
            have ce : (decide (0 < cntT q l m) : Bool) = (firstC q l m == 0) := by
              rw [Bool.eq_iff_iff, decide_eq_true_eq, beq_iff_eq]; exact cf
            generalize firstC q l m = fc2 at *
            generalize firstT q l m = ft2 at *
            simp (disch := omega) [tup2, ce]
            by_cases f0 : firstC p k n = 0
            · obtain ⟨fl, fn0, fw, fp, fh⟩ := first_ok f0
              have fpc : patC (firstT p k n) p = 0 := by unfold patC; rw [fw, fp]; rfl
              have fne : ((firstT p k n).length : Int) = n := by omega
              have f60 := isWord_len fw
              generalize firstT p k n = ft at *
              simp (disch := omega) [f0]
              refine impl_HasPattern ft p _ _ (by omega) (by omega) ?_
              simp (disch := omega) [tup2, fpc, fw, fp, fh, fne]
              exact ret_of (h _ sF)
            · have ft := first_no f0
              simp (disch := omega) [f0, ft]
              exact ret_of (h _ sF)
          · simp (disch := omega) [c0]
            by_cases f0 : firstC p k n = 0
            · obtain ⟨fl, fn0, fw, fp, fh⟩ := first_ok f0
              have fpc : patC (firstT p k n) p = 0 := by unfold patC; rw [fw, fp]; rfl
              have fne : ((firstT p k n).length : Int) = n := by omega
              have f60 := isWord_len fw
              generalize firstT p k n = ft at *
              simp (disch := omega) [f0]
              refine impl_HasPattern ft p _ _ (by omega) (by omega) ?_
              simp (disch := omega) [tup2, fpc, fw, fp, fh, fne]
              exact ret_of (h _ sF)
            · have ft := first_no f0
              simp (disch := omega) [f0, ft]
              exact ret_of (h _ sF)
        · simp (disch := omega) [l0]
          by_cases c0 : cntC q l m = 0
          · have cf := cnt_first c0
            simp (disch := omega) [c0]
            refine impl_FirstAvoiding q l m _ _ (by omega) ?_
            intro N8 t8
            have sF := sF.trans t8
            have ce : (decide (0 < cntT q l m) : Bool) = (firstC q l m == 0) := by
              rw [Bool.eq_iff_iff, decide_eq_true_eq, beq_iff_eq]; exact cf
            generalize firstC q l m = fc2 at *
            generalize firstT q l m = ft2 at *
            simp (disch := omega) [tup2, ce]
            by_cases f0 : firstC p k n = 0
            · obtain ⟨fl, fn0, fw, fp, fh⟩ := first_ok f0
              have fpc : patC (firstT p k n) p = 0 := by unfold patC; rw [fw, fp]; rfl
              have fne : ((firstT p k n).length : Int) = n := by omega
              have f60 := isWord_len fw
              generalize firstT p k n = ft at *
              simp (disch := omega) [f0]
              refine impl_HasPattern ft p _ _ (by omega) (by omega) ?_
              simp (disch := omega) [tup2, fpc, fw, fp, fh, fne]
              exact ret_of (h _ sF)
            · have ft := first_no f0
              simp (disch := omega) [f0, ft]
              exact ret_of (h _ sF)
          · simp (disch := omega) [c0]
            by_cases f0 : firstC p k n = 0
            · obtain ⟨fl, fn0, fw, fp, fh⟩ := first_ok f0
              have fpc : patC (firstT p k n) p = 0 := by unfold patC; rw [fw, fp]; rfl
              have fne : ((firstT p k n).length : Int) = n := by omega
              have f60 := isWord_len fw
              generalize firstT p k n = ft at *
              simp (disch := omega) [f0]
              refine impl_HasPattern ft p _ _ (by omega) (by omega) ?_
              simp (disch := omega) [tup2, fpc, fw, fp, fh, fne]
              exact ret_of (h _ sF)
            · have ft := first_no f0
              simp (disch := omega) [f0, ft]
              exact ret_of (h _ sF)
      · simp (disch := omega) [z0]
        by_cases l0 : longC r wd = 0
        · obtain ⟨g1, g2, g3, g4⟩ := long_first l0
          simp (disch := omega) [l0]
          refine impl_FirstAvoiding r wd (longT r wd) _ _ (by omega) ?_
          intro N6 t6
          have sF := sF.trans t6
          generalize longT r wd = lt at *
          simp (disch := omega) [tup2, g1]
          refine impl_FirstAvoiding r wd (lt + 1) _ _ (by omega) ?_
          intro N7 t7
          have sF := sF.trans t7
          simp (disch := omega) [tup2, g1, g2]
          by_cases c0 : cntC q l m = 0
          · have cf := cnt_first c0
            simp (disch := omega) [c0]
            refine impl_FirstAvoiding q l m _ _ (by omega) ?_
            intro N8 t8
            have sF := sF.trans t8
            have ce : (decide (0 < cntT q l m) : Bool) = (firstC q l m == 0) := by
              rw [Bool.eq_iff_iff, decide_eq_true_eq, beq_iff_eq]; exact cf
            generalize firstC q l m = fc2 at *
            generalize firstT q l m = ft2 at *
            simp (disch := omega) [tup2, ce]
            by_cases f0 : firstC p k n = 0
            · obtain ⟨fl, fn0, fw, fp, fh⟩ := first_ok f0
              have fpc : patC (firstT p k n) p = 0 := by unfold patC; rw [fw, fp]; rfl
              have fne : ((firstT p k n).length : Int) = n := by omega
              have f60 := isWord_len fw
              generalize firstT p k n = ft at *
              simp (disch := omega) [f0]
              refine impl_HasPattern ft p _ _ (by omega) (by omega) ?_
              simp (disch := omega) [tup2, fpc, fw, fp, fh, fne]
              exact ret_of (h _ sF)
            · have ft := first_no f0
              simp (disch := omega) [f0, ft]
              exact ret_of (h _ sF)
          · simp (disch := omega) [c0]
            by_cases f0 : firstC p k n = 0
            · obtain ⟨fl, fn0, fw, fp, fh⟩ := first_ok f0
              have fpc : patC (firstT p k n) p = 0 := by unfold patC; rw [fw, fp]; rfl
              have fne : ((firstT p k n).length : Int) = n := by omega
              have f60 := isWord_len fw
              generalize firstT p k n = ft at *
              simp (disch := omega) [f0]
              refine impl_HasPattern ft p _ _ (by omega) (by omega) ?_
              simp (disch := omega) [tup2, fpc, fw, fp, fh, fne]
              exact ret_of (h _ sF)
            · have ft := first_no f0
              simp (disch := omega) [f0, ft]
              exact ret_of (h _ sF)
        · simp (disch := omega) [l0]
          by_cases c0 : cntC q l m = 0
          · have cf := cnt_first c0
            simp (disch := omega) [c0]
            refine impl_FirstAvoiding q l m _ _ (by omega) ?_
            intro N8 t8
            have sF := sF.trans t8
            have ce : (decide (0 < cntT q l m) : Bool) = (firstC q l m == 0) := by
              rw [Bool.eq_iff_iff, decide_eq_true_eq, beq_iff_eq]; exact cf
            generalize firstC q l m = fc2 at *
            generalize firstT q l m = ft2 at *
            simp (disch := omega) [tup2, ce]
            by_cases f0 : firstC p k n = 0
            · obtain ⟨fl, fn0, fw, fp, fh⟩ := first_ok f0
              have fpc : patC (firstT p k n) p = 0 := by unfold patC; rw [fw, fp]; rfl
              have fne : ((firstT p k n).length : Int) = n := by omega
              have f60 := isWord_len fw
              generalize firstT p k n = ft at *
              simp (disch := omega) [f0]
              refine impl_HasPattern ft p _ _ (by omega) (by omega) ?_
              simp (disch := omega) [tup2, fpc, fw, fp, fh, fne]
              exact ret_of (h _ sF)
            · have ft := first_no f0
              simp (disch := omega) [f0, ft]
              exact ret_of (h _ sF)
          · simp (disch := omega) [c0]
            by_cases f0 : firstC p k n = 0
            · obtain ⟨fl, fn0, fw, fp, fh⟩ := first_ok f0
              have fpc : patC (firstT p k n) p = 0 := by unfold patC; rw [fw, fp]; rfl
              have fne : ((firstT p k n).length : Int) = n := by omega
              have f60 := isWord_len fw
              generalize firstT p k n = ft at *
              simp (disch := omega) [f0]
              refine impl_HasPattern ft p _ _ (by omega) (by omega) ?_
              simp (disch := omega) [tup2, fpc, fw, fp, fh, fne]
              exact ret_of (h _ sF)
            · have ft := first_no f0
              simp (disch := omega) [f0, ft]
              exact ret_of (h _ sF)
    · simp (disch := omega) [u0]
      by_cases z0 : zimC z = 0
      · have z1 : 1 ≤ z ∧ z ≤ 5 := by
          unfold zimC at z0
          by_cases hz : 1 ≤ z ∧ z ≤ 5
          · exact hz
          · rw [decide_eq_false hz] at z0; exact absurd z0 (by decide)
        have zt : zimT z = zimF z.toNat := by unfold zimT; rw [decide_eq_true z1]; rfl
        have zs := zimF_size z.toNat (by omega)
        have zsh : IntKind.i64.wrap (2 ^ (min (IntKind.u64.wrap z).toNat IntKind.i64.bits)) = ((zimF z.toNat).length : Nat) + 1 := by
          obtain ⟨zn, rfl⟩ : ∃ i : Nat, z = i := ⟨z.toNat, by omega⟩
          have : zn = 1 ∨ zn = 2 ∨ zn = 3 ∨ zn = 4 ∨ zn = 5 := by omega
          rcases this with rfl | rfl | rfl | rfl | rfl <;> decide
        have zl : (zimF z.toNat).length ≤ 31 := zimF_len _ (by omega)
        have zu : IntKind.u64.wrap z = z := wrap_u64 (by omega) (by omega)
        rw [zt]
        generalize zimF z.toNat = zf at *
        simp (disch := omega) [z0, zsh]
        by_cases l0 : longC r wd = 0
        · obtain ⟨g1, g2, g3, g4⟩ := long_first l0
          simp (disch := omega) [l0]
          refine impl_FirstAvoiding r wd (longT r wd) _ _ (by omega) ?_
          intro N6 t6
          have sF := sF.trans t6
          generalize longT r wd = lt at *
          simp (disch := omega) [tup2, g1]
          refine impl_FirstAvoiding r wd (lt + 1) _ _ (by omega) ?_
          intro N7 t7
          have sF := sF.trans t7
          simp (disch := omega) [tup2, g1, g2]
          by_cases c0 : cntC q l m = 0
          · have cf := cnt_first c0
            simp (disch := omega) [c0]
            refine impl_FirstAvoiding q l m _ _ (by omega) ?_
            intro N8 t8
            have sF := sF.trans t8
            have ce : (decide (0 < cntT q l m) : Bool) = (firstC q l m == 0) := by
              rw [Bool.eq_iff_iff, decide_eq_true_eq, beq_iff_eq]; exact cf
            generalize firstC q l m = fc2 at *
            generalize firstT q l m = ft2 at *
            simp (disch := omega) [tup2, ce]
            by_cases f0 : firstC p k n = 0
            · obtain ⟨fl, fn0, fw, fp, fh⟩ := first_ok f0
              have fpc : patC (firstT p k n) p = 0 := by unfold patC; rw [fw, fp]; rfl
              have fne : ((firstT p k n).length : Int) = n := by omega
              have f60 := isWord_len fw
              generalize firstT p k n = ft at *
              simp (disch := omega) [f0]
              refine impl_HasPattern ft p _ _ (by omega) (by omega) ?_
              simp (disch := omega) [tup2, fpc, fw, fp, fh, fne]
              exact ret_of (h _ sF)
            · have ft := first_no f0
              simp (disch := omega) [f0, ft]
              exact ret_of (h _ sF)
          · simp (disch := omega) [c0]
            by_cases f0 : firstC p k n = 0
            · obtain ⟨fl, fn0, fw, fp, fh⟩ := first_ok f0
              have fpc : patC (firstT p k n) p = 0 := by unfold patC; rw [fw, fp]; rfl
              have fne : ((firstT p k n).length : Int) = n := by omega
              have f60 := isWord_len fw
              generalize firstT p k n = ft at *
              simp (disch := omega) [f0]
              refine impl_HasPattern ft p _ _ (by omega) (by omega) ?_
              simp (disch := omega) [tup2, fpc, fw, fp, fh, fne]
              exact ret_of (h _ sF)
            · have ft := first_no f0
              simp (disch := omega) [f0, ft]
              exact ret_of (h _ sF)
        · simp (disch := omega) [l0]
          by_cases c0 : cntC q l m = 0
          · have cf := cnt_first c0
            simp (disch := omega) [c0]
            refine impl_FirstAvoiding q l m _ _ (by omega) ?_
            intro N8 t8
            have sF := sF.trans t8
            have ce : (decide (0 < cntT q l m) : Bool) = (firstC q l m == 0) := by
              rw [Bool.eq_iff_iff, decide_eq_true_eq, beq_iff_eq]; exact cf
            generalize firstC q l m = fc2 at *
            generalize firstT q l m = ft2 at *
            simp (disch := omega) [tup2, ce]
            by_cases f0 : firstC p k n = 0
            · obtain ⟨fl, fn0, fw, fp, fh⟩ := first_ok f0
              have fpc : patC (firstT p k n) p = 0 := by unfold patC; rw [fw, fp]; rfl
              have fne : ((firstT p k n).length : Int) = n := by omega
              have f60 := isWord_len fw
              generalize firstT p k n = ft at *
              simp (disch := omega) [f0]
              refine impl_HasPattern ft p _ _ (by omega) (by omega) ?_
              simp (disch := omega) [tup2, fpc, fw, fp, fh, fne]
              exact ret_of (h _ sF)
            · have ft := first_no f0
              simp (disch := omega) [f0, ft]
              exact ret_of (h _ sF)
          · simp (disch := omega) [c0]
            by_cases f0 : firstC p k n = 0
            · obtain ⟨fl, fn0, fw, fp, fh⟩ := first_ok f0
              have fpc : patC (firstT p k n) p = 0 := by unfold patC; rw [fw, fp]; rfl
              have fne : ((firstT p k n).length : Int) = n := by omega
              have f60 := isWord_len fw
              generalize firstT p k n = ft at *
              simp (disch := omega) [f0]
              refine impl_HasPattern ft p _ _ (by omega) (by omega) ?_
              simp (disch := omega) [tup2, fpc, fw, fp, fh, fne]
              exact ret_of (h _ sF)
            · have ft := first_no f0
              simp (disch := omega) [f0, ft]
              exact ret_of (h _ sF)
      · simp (disch := omega) [z0]
        by_cases l0 : longC r wd = 0
        · obtain ⟨g1, g2, g3, g4⟩ := long_first l0
          simp (disch := omega) [l0]
          refine impl_FirstAvoiding r wd (longT r wd) _ _ (by omega) ?_
          intro N6 t6
          have sF := sF.trans t6
          generalize longT r wd = lt at *
          simp (disch := omega) [tup2, g1]
          refine impl_FirstAvoiding r wd (lt + 1) _ _ (by omega) ?_
          intro N7 t7
          have sF := sF.trans t7
          simp (disch := omega) [tup2, g1, g2]
          by_cases c0 : cntC q l m = 0
          · have cf := cnt_first c0
            simp (disch := omega) [c0]
            refine impl_FirstAvoiding q l m _ _ (by omega) ?_
            intro N8 t8
            have sF := sF.trans t8
            have ce : (decide (0 < cntT q l m) : Bool) = (firstC q l m == 0) := by
              rw [Bool.eq_iff_iff, decide_eq_true_eq, beq_iff_eq]; exact cf
            generalize firstC q l m = fc2 at *
            generalize firstT q l m = ft2 at *
            simp (disch := omega) [tup2, ce]
            by_cases f0 : firstC p k n = 0
            · obtain ⟨fl, fn0, fw, fp, fh⟩ := first_ok f0
              have fpc : patC (firstT p k n) p = 0 := by unfold patC; rw [fw, fp]; rfl
              have fne : ((firstT p k n).length : Int) = n := by omega
              have f60 := isWord_len fw
              generalize firstT p k n = ft at *
              simp (disch := omega) [f0]
              refine impl_HasPattern ft p _ _ (by omega) (by omega) ?_
              simp (disch := omega) [tup2, fpc, fw, fp, fh, fne]
              exact ret_of (h _ sF)
            · have ft := first_no f0
              simp (disch := omega) [f0, ft]
              exact ret_of (h _ sF)
          · simp (disch := omega) [c0]
            by_cases f0 : firstC p k n = 0
            · obtain ⟨fl, fn0, fw, fp, fh⟩ := first_ok f0
              have fpc : patC (firstT p k n) p = 0 := by unfold patC; rw [fw, fp]; rfl
              have fne : ((firstT p k n).length : Int) = n := by omega
              have f60 := isWord_len fw
              generalize firstT p k n = ft at *
              simp (disch := omega) [f0]
              refine impl_HasPattern ft p _ _ (by omega) (by omega) ?_
              simp (disch := omega) [tup2, fpc, fw, fp, fh, fne]
              exact ret_of (h _ sF)
            · have ft := first_no f0
              simp (disch := omega) [f0, ft]
              exact ret_of (h _ sF)
        · simp (disch := omega) [l0]
          by_cases c0 : cntC q l m = 0
          · have cf := cnt_first c0
            simp (disch := omega) [c0]
            refine impl_FirstAvoiding q l m _ _ (by omega) ?_
            intro N8 t8
            have sF := sF.trans t8
            have ce : (decide (0 < cntT q l m) : Bool) = (firstC q l m == 0) := by
              rw [Bool.eq_iff_iff, decide_eq_true_eq, beq_iff_eq]; exact cf
            generalize firstC q l m = fc2 at *
            generalize firstT q l m = ft2 at *
            simp (disch := omega) [tup2, ce]
            by_cases f0 : firstC p k n = 0
            · obtain ⟨fl, fn0, fw, fp, fh⟩ := first_ok f0
              have fpc : patC (firstT p k n) p = 0 := by unfold patC; rw [fw, fp]; rfl
              have fne : ((firstT p k n).length : Int) = n := by omega
              have f60 := isWord_len fw
              generalize firstT p k n = ft at *
              simp (disch := omega) [f0]
              refine impl_HasPattern ft p _ _ (by omega) (by omega) ?_
              simp (disch := omega) [tup2, fpc, fw, fp, fh, fne]
              exact ret_of (h _ sF)
            · have ft := first_no f0
              simp (disch := omega) [f0, ft]
              exact ret_of (h _ sF)
          · simp (disch := omega) [c0]
            by_cases f0 : firstC p k n = 0
            · obtain ⟨fl, fn0, fw, fp, fh⟩ := first_ok f0
              have fpc : patC (firstT p k n) p = 0 := by unfold patC; rw [fw, fp]; rfl
              have fne : ((firstT p k n).length : Int) = n := by omega
              have f60 := isWord_len fw
              generalize firstT p k n = ft at *
              simp (disch := omega) [f0]
              refine impl_HasPattern ft p _ _ (by omega) (by omega) ?_
              simp (disch := omega) [tup2, fpc, fw, fp, fh, fne]
              exact ret_of (h _ sF)
            · have ft := first_no f0
              simp (disch := omega) [f0, ft]
              exact ret_of (h _ sF)
  · obtain ⟨u1, u2⟩ := unav_three hu
    have u0 : unavC s = 0 := by unfold unavC; rw [u1]; rfl
    have z3 : zimT 3 = zimF 3 := rfl
    have z3c : zimC 3 = 0 := rfl
    have z3p : patC (zimF 3) s = 0 := by unfold patC; rw [zimF_is3, u1]; rfl
    have z3w := zimF_is3
    have z3l : (zimF 3).length ≤ 31 := zimF_len 3 (by omega)
    simp (disch := omega) [u0]
    refine impl_ZiminWord 3 _ _ ?_
    rw [z3, z3c]
    generalize zimF 3 = z3f at *
    simp (disch := omega) [tup2]
    refine impl_HasPattern z3f s _ _ (by omega) (by omega) ?_
    simp (disch := omega) [tup2, z3p, z3w, u1, u2]
    by_cases z0 : zimC z = 0
    · have z1 : 1 ≤ z ∧ z ≤ 5 := by
        unfold zimC at z0
        by_cases hz : 1 ≤ z ∧ z ≤ 5
        · exact hz
        · rw [decide_eq_false hz] at z0; exact absurd z0 (by decide)
      have zt : zimT z = zimF z.toNat := by unfold zimT; rw [decide_eq_true z1]; rfl
      have zs := zimF_size z.toNat (by omega)
      have zsh : IntKind.i64.wrap (2 ^ (min (IntKind.u64.wrap z).toNat IntKind.i64.bits)) = ((zimF z.toNat).length : Nat) + 1 := by
        obtain ⟨zn, rfl⟩ : ∃ i : Nat, z = i := ⟨z.toNat, by omega⟩
        have : zn = 1 ∨ zn = 2 ∨ zn = 3 ∨ zn = 4 ∨ zn = 5 := by omega
        rcases this with rfl | rfl | rfl | rfl | rfl <;> decide
      have zl : (zimF z.toNat).length ≤ 31 := zimF_len _ (by omega)
      have zu : IntKind.u64.wrap z = z := wrap_u64 (by omega) (by omega)
      rw [zt]
      generalize zimF z.toNat = zf at *
      simp (disch := omega) [z0, zsh]
      by_cases l0 : longC r wd = 0
      · obtain ⟨g1, g2, g3, g4⟩ := long_first l0
        simp (disch := omega) [l0]
        refine impl_FirstAvoiding r wd (longT r wd) _ _ (by omega) ?_
        intro N6 t6
        have sF := sF.trans t6
        generalize longT r wd = lt at *
        simp (disch := omega) [tup2, g1]
        refine impl_FirstAvoiding r wd (lt + 1) _ _ (by omega) ?_
        intro N7 t7
        have sF := sF.trans t7
        simp (disch := omega) [tup2, g1, g2]
        by_cases c0 : cntC q l m = 0
        · have cf := cnt_first c0
          simp (disch := omega) [c0]
          refine impl_FirstAvoiding q l m _ _ (by omega) ?_
          intro N8 t8
          have sF := sF.trans t8
          have ce : (decide (0 < cntT q l m) : Bool) = (firstC q l m == 0) := by
            rw [Bool.eq_iff_iff, decide_eq_true_eq, beq_iff_eq]; exact cf
          generalize firstC q l m = fc2 at *
          generalize firstT q l m = ft2 at *
          simp (disch := omega) [tup2, ce]
          by_cases f0 : firstC p k n = 0
          · obtain ⟨fl, fn0, fw, fp, fh⟩ := first_ok f0
            have fpc : patC (firstT p k n) p = 0 := by unfold patC; rw [fw, fp]; rfl
            have fne : ((firstT p k n).length : Int) = n := by omega
            have f60 := isWord_len fw
            generalize firstT p k n = ft at *
            simp (disch := omega) [f0]
            refine impl_HasPattern ft p _ _ (by omega) (by omega) ?_
            simp (disch := omega) [tup2, fpc, fw, fp, fh, fne]
            exact ret_of (h _ sF)
          · have ft := first_no f0
            simp (disch := omega) [f0, ft]
            exact ret_of (h _ sF)
        · simp (disch := omega) [c0]
          by_cases f0 : firstC p k n = 0
          · obtain ⟨fl, fn0, fw, fp, fh⟩ := first_ok f0
            have fpc : patC (firstT p k n) p = 0 := by unfold patC; rw [fw, fp]; rfl
            have fne : ((firstT p k n).length : Int) = n := by omega
            have f60 := isWord_len fw
            generalize firstT p k n = ft at *
            simp (disch := omega) [f0]
            refine impl_HasPattern ft p _ _ (by omega) (by omega) ?_
            simp (disch := omega) [tup2, fpc, fw, fp, fh, fne]
            exact ret_of (h _ sF)
          · have ft := first_no f0
            simp (disch := omega) [f0, ft]
            exact ret_of (h _ sF)
      · simp (disch := omega) [l0]
        by_cases c0 : cntC q l m = 0
        · have cf := cnt_first c0
          simp (disch := omega) [c0]
          refine impl_FirstAvoiding q l m _ _ (by omega) ?_
          intro N8 t8
          have sF := sF.trans t8
          have ce : (decide (0 < cntT q l m) : Bool) = (firstC q l m == 0) := by
            rw [Bool.eq_iff_iff, decide_eq_true_eq, beq_iff_eq]; exact cf
          generalize firstC q l m = fc2 at *
          generalize firstT q l m = ft2 at *
          simp (disch := omega) [tup2, ce]
          by_cases f0 : firstC p k n = 0
          · obtain ⟨fl, fn0, fw, fp, fh⟩ := first_ok f0
            have fpc : patC (firstT p k n) p = 0 := by unfold patC; rw [fw, fp]; rfl
            have fne : ((firstT p k n).length : Int) = n := by omega
            have f60 := isWord_len fw
            generalize firstT p k n = ft at *
            simp (disch := omega) [f0]
            refine impl_HasPattern ft p _ _ (by omega) (by omega) ?_
            simp (disch := omega) [tup2, fpc, fw, fp, fh, fne]
            exact ret_of (h _ sF)
          · have ft := first_no f0
            simp (disch := omega) [f0, ft]
            exact ret_of (h _ sF)
        · simp (disch := omega) [c0]
          by_cases f0 : firstC p k n = 0
          · obtain ⟨fl, fn0, fw, fp, fh⟩ := first_ok f0
            have fpc : patC (firstT p k n) p = 0 := by unfold patC; rw [fw, fp]; rfl
            have fne : ((firstT p k n).length : Int) = n := by omega
            have f60 := isWord_len fw
            generalize firstT p k n = ft at *
            simp (disch := omega) [f0]
            refine impl_HasPattern ft p _ _ (by omega) (by omega) ?_
            simp (disch := omega) [tup2, fpc, fw, fp, fh, fne]
            exact ret_of (h _ sF)
          · have ft := first_no f0
            simp (disch := omega) [f0, ft]
            exact ret_of (h _ sF)
    · simp (disch := omega) [z0]
      by_cases l0 : longC r wd = 0
      · obtain ⟨g1, g2, g3, g4⟩ := long_first l0
        simp (disch := omega) [l0]
        refine impl_FirstAvoiding r wd (longT r wd) _ _ (by omega) ?_
        intro N6 t6
        have sF := sF.trans t6
        generalize longT r wd = lt at *
        simp (disch := omega) [tup2, g1]
        refine impl_FirstAvoiding r wd (lt + 1) _ _ (by omega) ?_
        intro N7 t7
        have sF := sF.trans t7
        simp (disch := omega) [tup2, g1, g2]
        by_cases c0 : cntC q l m = 0
        · have cf := cnt_first c0
          simp (disch := omega) [c0]
          refine impl_FirstAvoiding q l m _ _ (by omega) ?_
          intro N8 t8
          have sF := sF.trans t8
          have ce : (decide (0 < cntT q l m) : Bool) = (firstC q l m == 0) := by
            rw [Bool.eq_iff_iff, decide_eq_true_eq, beq_iff_eq]; exact cf
          generalize firstC q l m = fc2 at *
          generalize firstT q l m = ft2 at *
          simp (disch := omega) [tup2, ce]
          by_cases f0 : firstC p k n = 0
          · obtain ⟨fl, fn0, fw, fp, fh⟩ := first_ok f0
            have fpc : patC (firstT p k n) p = 0 := by unfold patC; rw [fw, fp]; rfl
            have fne : ((firstT p k n).length : Int) = n := by omega
            have f60 := isWord_len fw
            generalize firstT p k n = ft at *
            simp (disch := omega) [f0]
            refine impl_HasPattern ft p _ _ (by omega) (by omega) ?_
            simp (disch := omega) [tup2, fpc, fw, fp, fh, fne]
            exact ret_of (h _ sF)
          · have ft := first_no f0
            simp (disch := omega) [f0, ft]
            exact ret_of (h _ sF)
        · simp (disch := omega) [c0]
          by_cases f0 : firstC p k n = 0
          · obtain ⟨fl, fn0, fw, fp, fh⟩ := first_ok f0
            have fpc : patC (firstT p k n) p = 0 := by unfold patC; rw [fw, fp]; rfl
            have fne : ((firstT p k n).length : Int) = n := by omega
            have f60 := isWord_len fw
            generalize firstT p k n = ft at *
            simp (disch := omega) [f0]
            refine impl_HasPattern ft p _ _ (by omega) (by omega) ?_
            simp (disch := omega) [tup2, fpc, fw, fp, fh, fne]
            exact ret_of (h _ sF)
          · have ft := first_no f0
            simp (disch := omega) [f0, ft]
            exact ret_of (h _ sF)
      · simp (disch := omega) [l0]
        by_cases c0 : cntC q l m = 0
        · have cf := cnt_first c0
          simp (disch := omega) [c0]
          refine impl_FirstAvoiding q l m _ _ (by omega) ?_
          intro N8 t8
          have sF := sF.trans t8
          have ce : (decide (0 < cntT q l m) : Bool) = (firstC q l m == 0) := by
            rw [Bool.eq_iff_iff, decide_eq_true_eq, beq_iff_eq]; exact cf
          generalize firstC q l m = fc2 at *
          generalize firstT q l m = ft2 at *
          simp (disch := omega) [tup2, ce]
          by_cases f0 : firstC p k n = 0
          · obtain ⟨fl, fn0, fw, fp, fh⟩ := first_ok f0
            have fpc : patC (firstT p k n) p = 0 := by unfold patC; rw [fw, fp]; rfl
            have fne : ((firstT p k n).length : Int) = n := by omega
            have f60 := isWord_len fw
            generalize firstT p k n = ft at *
            simp (disch := omega) [f0]
            refine impl_HasPattern ft p _ _ (by omega) (by omega) ?_
            simp (disch := omega) [tup2, fpc, fw, fp, fh, fne]
            exact ret_of (h _ sF)
          · have ft := first_no f0
            simp (disch := omega) [f0, ft]
            exact ret_of (h _ sF)
        · simp (disch := omega) [c0]
          by_cases f0 : firstC p k n = 0
          · obtain ⟨fl, fn0, fw, fp, fh⟩ := first_ok f0
            have fpc : patC (firstT p k n) p = 0 := by unfold patC; rw [fw, fp]; rfl
            have fne : ((firstT p k n).length : Int) = n := by omega
            have f60 := isWord_len fw
            generalize firstT p k n = ft at *
            simp (disch := omega) [f0]
            refine impl_HasPattern ft p _ _ (by omega) (by omega) ?_
            simp (disch := omega) [tup2, fpc, fw, fp, fh, fne]
            exact ret_of (h _ sF)
          · have ft := first_no f0
            simp (disch := omega) [f0, ft]
            exact ret_of (h _ sF)
end Go.Proofs.Yticejlplbibegaa

/- Law: products, reversed words, letters, turned words. -/
import Derived.Test.YtbefijbmgmbphaaGreatM17
import Derived.Test.YtbefijbmgmbphaaGreatC69
import Derived.Test.YtbefijbmgmbphaaGreatC6
namespace Go.Proofs.YtbefijbmgmbphaaGreat
open Go
set_option linter.unusedSimpArgs false
set_option linter.unusedVariables false

theorem spec_IsWord (w : List UInt8) (M : Mem) (R : Value → Mem → Prop) (hl : w.length ≤ 1099511627776) (h : R (.bool (isWord w)) M) : Does Tryz.prog 9 [str w] M R := by
  refine does_fn tab_ok Tryz.func9 rfl (by kernel_rfl) (by kernel_rfl) Tryz.ntmps9 Tryz.results9 rfl ?_
  simp (disch := omega)
  refine l01Is_does w _ _ hl ?_
  simp (disch := omega)
  exact ret_of h
set_option maxRecDepth 4000 in
set_option maxHeartbeats 4000000 in
theorem law_FnWords (v : Value) (xs : List UInt8) (M : Mem) (R : Value → Mem → Prop) (hv : Rd M v (bytesV xs)) (hl : xs.length ≤ 9223372036854775807) (h : ∀ M', Sub M M' → R (.bool true) M') : Does Tryz.prog 3 [v] M R := by
  refine does_fn tab_ok Tryz.func3 rfl (by kernel_rfl) (by kernel_rfl) Tryz.ntmps3 Tryz.results3 rfl ?_
  simp (disch := omega)
  refine big_does v xs _ _ hv hl ?_
  by_cases hb : 4096 < xs.length
  · rw [decide_eq_true hb]
    simp (disch := omega)
    exact ret_of (h _ (Sub.refl _))
  rw [decide_eq_false hb]
  simp (disch := omega)
  refine drawPr_does v xs _ _ hv (by omega) ?_
  intro w u M1 sF hw hu
  simp (disch := omega)
  refine impl_ProductOf w u _ _ (by omega) (by omega) ?_
  intro M2 s2
  have sF := sF.trans s2
  simp (disch := omega) [tup2]
  refine spec_ProductOf w u _ _ (by omega) (by omega) ?_
  simp (disch := omega) [tup2]
  refine isWord_does w _ _ (by omega) ?_
  simp (disch := omega)
  refine spec_IsWord w _ _ (by omega) ?_
  simp (disch := omega)
  by_cases hp : prodC w u = 0
  · obtain ⟨hw1, hu1, h60, hpt⟩ := prod_ok hp
    have hwu := word_app hw1 hu1 h60
    have w60 := isWord_len hw1
    have u60 := isWord_len hu1
    have cb := cbg_app hwu hw1
    have ce := cend_app hwu hu1
    have wn := wol_nums hwu
    have cs := cntsum (isWord_all hwu)
    have hPr : (w ++ u).reverse = u.reverse ++ w.reverse := List.reverse_append
    rw [hpt]
    simp (disch := omega) [hp]
    have q1 : isWord w.reverse = true := word_rev hw1
    have q2 : isWord u.reverse = true := word_rev hu1
    have q3 : isWord (w ++ u).reverse = true := word_rev hwu
    have qz : ∀ x, isWord x = true → wcode x = 0 := fun x hx => if_pos hx
    generalize w ++ u = P at *
    refine impl_ReverseOf P _ _ (by omega) ?_
    intro M3 s3
    have sF := sF.trans s3
    rw [hwu, if_pos rfl, qz _ hwu]
    simp (disch := omega) [tup2]
    refine impl_ReverseOf w _ _ (by omega) ?_
    intro M4 s4
    have sF := sF.trans s4
    rw [hw1, if_pos rfl, qz _ hw1]
    simp (disch := omega) [tup2]
    refine impl_ReverseOf u _ _ (by omega) ?_
    intro M5 s5
    have sF := sF.trans s5
    rw [hu1, if_pos rfl, qz _ hu1]
    simp (disch := omega) [tup2]
    have hrl : (u.reverse ++ w.reverse).length ≤ 60 := by rw [← hPr, List.length_reverse]; exact h60
    obtain ⟨pm1, pm2⟩ := prod_mk q2 q1 hrl
    refine impl_ProductOf u.reverse w.reverse _ _ (by rw [List.length_reverse]; omega) (by rw [List.length_reverse]; omega) ?_
    intro M6 s6
    have sF := sF.trans s6
    rw [pm1, pm2]
    simp (disch := omega) [tup2]
    rw [← hPr]
    refine impl_ReverseOf P.reverse _ _ (by rw [List.length_reverse]; omega) ?_
    intro M7 s7
    have sF := sF.trans s7
    rw [q3, if_pos rfl, qz _ q3, List.reverse_reverse]
    simp (disch := omega) [tup2]
    refine impl_LettersOf P _ _ (by omega) ?_
    intro vL M8 o8
    have sF := sF.trans o8.sub
    rw [hwu, if_pos rfl] at o8
    rw [qz _ hwu]
    simp (disch := omega)
    refine impl_WordOfLetters vL (nums P) _ _ o8.rd (by rw [nums_length]; omega) ?_
    intro M9 s9
    have sF := sF.trans s9
    rw [wn.1, wn.2]
    simp (disch := omega) [tup2]
    refine impl_CountLetters P _ _ (by omega) ?_
    intro vC M10 o10
    have sF := sF.trans o10.sub
    rw [hwu, if_pos rfl, counts_nats] at o10
    rw [qz _ hwu]
    simp (disch := omega)
    refine impl_CommonBeginning P w _ _ (by omega) (by omega) ?_
    intro M11 s11
    have sF := sF.trans s11
    rw [cb.1, cb.2]
    simp (disch := omega) [tup2]
    refine impl_CommonEnd P u _ _ (by omega) (by omega) ?_
    intro M12 s12
    have sF := sF.trans s12
    rw [ce.1, ce.2]
    simp (disch := omega) [tup2]
    have hnl : (ncounts P).length ≤ 1099511627776 := by unfold ncounts; rw [List.length_map, List.length_range]; omega
    refine sum_does vC (ncounts P) _ _ ((o10.rd.sub s11).sub s12) hnl (by omega) ?_
    rw [cs]
    simp (disch := omega)
    refine drawTw_does v xs _ _ (hv.sub sF) (by omega) ?_
    intro x k K1 r1 hx
    have sF := sF.trans r1
    simp (disch := omega)
    refine impl_TurnWord x k _ _ (by omega) ?_
    intro K2 r2
    have sF := sF.trans r2
    simp (disch := omega) [tup2]
    refine spec_TurnWord x k _ _ (by omega) ?_
    simp (disch := omega) [tup2]
    by_cases hc : turC x k = 0
    · obtain ⟨_, _, _, hc2, ht2, hl2⟩ := tur_ok hc
      simp (disch := omega) [hc]
      refine impl_TurnWord (turT x k) ((x.length : Int) - k) _ _ (by omega) ?_
      intro K3 r3
      have sF := sF.trans r3
      rw [hc2, ht2]
      simp (disch := omega) [tup2]
      refine drawPw_does v xs _ _ (hv.sub sF) (by omega) ?_
      intro y n N1 t1 hy
      have sF := sF.trans t1
      simp (disch := omega)
      refine impl_PowerOf y n _ _ (by omega) ?_
      intro N2 t2
      have sF := sF.trans t2
      simp (disch := omega) [tup2]
      refine spec_PowerOf y n _ _ (by omega) ?_
      simp (disch := omega) [tup2]
      refine drawRl_does v xs _ _ (hv.sub sF) (by omega) ?_
      intro z vp zp N3 t3 hz hzp rp
      have sF := sF.trans t3
      simp (disch := omega)
      refine impl_RenameLetters z vp zp _ _ rp (by omega) (by omega) ?_
      simp (disch := omega) [tup2]
      refine spec_RenameLetters z vp zp _ _ rp (by omega) (by omega) ?_
      simp (disch := omega) [tup2]
      refine drawCw_does v xs _ _ (hv.sub sF) (by omega) ?_
      intro a b N4 t4 ha hb
      have sF := sF.trans t4
      simp (disch := omega)
      refine impl_CompareWords a b _ _ (by omega) (by omega) ?_
      intro N5 t5
      have sF := sF.trans t5
      simp (disch := omega) [tup2]
      refine spec_CompareWords a b _ _ (by omega) (by omega) ?_
      simp (disch := omega) [tup2]
      refine impl_CommonBeginning a b _ _ (by omega) (by omega) ?_
      intro N6 t6
      have sF := sF.trans t6
      simp (disch := omega) [tup2]
      refine spec_CommonBeginning a b _ _ (by omega) (by omega) ?_
      simp (disch := omega) [tup2]
      refine impl_CommonEnd a b _ _ (by omega) (by omega) ?_
      intro N7 t7
      have sF := sF.trans t7
      simp (disch := omega) [tup2]
      refine spec_CommonEnd a b _ _ (by omega) (by omega) ?_
      intro N8 t8
      have sF := sF.trans t8
      simp (disch := omega) [tup2]
      refine drawWl_does v xs _ _ (hv.sub sF) (by omega) ?_
      intro vl zl N9 t9 hzl rl
      have sF := sF.trans t9
      simp (disch := omega)
      refine impl_WordOfLetters vl zl _ _ rl (by omega) ?_
      intro N10 t10
      have sF := sF.trans t10
      simp (disch := omega) [tup2]
      refine spec_WordOfLetters vl zl _ _ (rl.sub t10) (by omega) ?_
      intro N11 t11
      have sF := sF.trans t11
      simp (disch := omega) [tup2]
      refine drawNm_does v xs _ _ (hv.sub sF) (by omega) ?_
      intro nl nm N12 t12 hnl
      have sF := sF.trans t12
      simp (disch := omega)
      refine impl_NamedWord nl nm _ _ (by omega) ?_
      simp (disch := omega) [tup2]
      refine spec_NamedWord nl nm _ _ (by omega) ?_
      simp (disch := omega) [tup2]
      exact ret_of (h _ sF)
    · simp (disch := omega) [hc]
      refine drawPw_does v xs _ _ (hv.sub sF) (by omega) ?_
      intro y n N1 t1 hy
      have sF := sF.trans t1
      simp (disch := omega)
      refine impl_PowerOf y n _ _ (by omega) ?_
      intro N2 t2
      have sF := sF.trans t2
      simp (disch := omega) [tup2]
      refine spec_PowerOf y n _ _ (by omega) ?_
      simp (disch := omega) [tup2]
      refine drawRl_does v xs _ _ (hv.sub sF) (by omega) ?_
      intro z vp zp N3 t3 hz hzp rp
      have sF := sF.trans t3
      simp (disch := omega)
      refine impl_RenameLetters z vp zp _ _ rp (by omega) (by omega) ?_
      simp (disch := omega) [tup2]
      refine spec_RenameLetters z vp zp _ _ rp (by omega) (by omega) ?_
      simp (disch := omega) [tup2]
      refine drawCw_does v xs _ _ (hv.sub sF) (by omega) ?_
      intro a b N4 t4 ha hb
      have sF := sF.trans t4
      simp (disch := omega)
      refine impl_CompareWords a b _ _ (by omega) (by omega) ?_
      intro N5 t5
      have sF := sF.trans t5
      simp (disch := omega) [tup2]
      refine spec_CompareWords a b _ _ (by omega) (by omega) ?_
      simp (disch := omega) [tup2]
      refine impl_CommonBeginning a b _ _ (by omega) (by omega) ?_
      intro N6 t6
      have sF := sF.trans t6
      simp (disch := omega) [tup2]
      refine spec_CommonBeginning a b _ _ (by omega) (by omega) ?_
      simp (disch := omega) [tup2]
      refine impl_CommonEnd a b _ _ (by omega) (by omega) ?_
      intro N7 t7
      have sF := sF.trans t7
      simp (disch := omega) [tup2]
      refine spec_CommonEnd a b _ _ (by omega) (by omega) ?_
      intro N8 t8
      have sF := sF.trans t8
      simp (disch := omega) [tup2]
      refine drawWl_does v xs _ _ (hv.sub sF) (by omega) ?_
      intro vl zl N9 t9 hzl rl
      have sF := sF.trans t9
      simp (disch := omega)
      refine impl_WordOfLetters vl zl _ _ rl (by omega) ?_
      intro N10 t10
      have sF := sF.trans t10
      simp (disch := omega) [tup2]
      refine spec_WordOfLetters vl zl _ _ (rl.sub t10) (by omega) ?_
      intro N11 t11
      have sF := sF.trans t11
      simp (disch := omega) [tup2]
      refine drawNm_does v xs _ _ (hv.sub sF) (by omega) ?_
      intro nl nm N12 t12 hnl
      have sF := sF.trans t12
      simp (disch := omega)
      refine impl_NamedWord nl nm _ _ (by omega) ?_
      simp (disch := omega) [tup2]
      refine spec_NamedWord nl nm _ _ (by omega) ?_
      simp (disch := omega) [tup2]
      exact ret_of (h _ sF)
  · simp (disch := omega) [hp]
    refine drawTw_does v xs _ _ (hv.sub sF) (by omega) ?_
    intro x k K1 r1 hx
    have sF := sF.trans r1
    simp (disch := omega)
    refine impl_TurnWord x k _ _ (by omega) ?_
    intro K2 r2
    have sF := sF.trans r2
    simp (disch := omega) [tup2]
    refine spec_TurnWord x k _ _ (by omega) ?_
    simp (disch := omega) [tup2]
    by_cases hc : turC x k = 0
    · obtain ⟨_, _, _, hc2, ht2, hl2⟩ := tur_ok hc
      simp (disch := omega) [hc]
      refine impl_TurnWord (turT x k) ((x.length : Int) - k) _ _ (by omega) ?_
      intro K3 r3
      have sF := sF.trans r3
      rw [hc2, ht2]
      simp (disch := omega) [tup2]
      refine drawPw_does v xs _ _ (hv.sub sF) (by omega) ?_
      intro y n N1 t1 hy
      have sF := sF.trans t1
      simp (disch := omega)
      refine impl_PowerOf y n _ _ (by omega) ?_
      intro N2 t2
      have sF := sF.trans t2
      simp (disch := omega) [tup2]
      refine spec_PowerOf y n _ _ (by omega) ?_
      simp (disch := omega) [tup2]
      refine drawRl_does v xs _ _ (hv.sub sF) (by omega) ?_
      intro z vp zp N3 t3 hz hzp rp
      have sF := sF.trans t3
      simp (disch := omega)
      refine impl_RenameLetters z vp zp _ _ rp (by omega) (by omega) ?_
      simp (disch := omega) [tup2]
      refine spec_RenameLetters z vp zp _ _ rp (by omega) (by omega) ?_
      simp (disch := omega) [tup2]
      refine drawCw_does v xs _ _ (hv.sub sF) (by omega) ?_
      intro a b N4 t4 ha hb
      have sF := sF.trans t4
      simp (disch := omega)
      refine impl_CompareWords a b _ _ (by omega) (by omega) ?_
      intro N5 t5
      have sF := sF.trans t5
      simp (disch := omega) [tup2]
      refine spec_CompareWords a b _ _ (by omega) (by omega) ?_
      simp (disch := omega) [tup2]
      refine impl_CommonBeginning a b _ _ (by omega) (by omega) ?_
      intro N6 t6
      have sF := sF.trans t6
      simp (disch := omega) [tup2]
      refine spec_CommonBeginning a b _ _ (by omega) (by omega) ?_
      simp (disch := omega) [tup2]
      refine impl_CommonEnd a b _ _ (by omega) (by omega) ?_
      intro N7 t7
      have sF := sF.trans t7
      simp (disch := omega) [tup2]
      refine spec_CommonEnd a b _ _ (by omega) (by omega) ?_
      intro N8 t8
      have sF := sF.trans t8
      simp (disch := omega) [tup2]
      refine drawWl_does v xs _ _ (hv.sub sF) (by omega) ?_
      intro vl zl N9 t9 hzl rl
      have sF := sF.trans t9
      simp (disch := omega)
      refine impl_WordOfLetters vl zl _ _ rl (by omega) ?_
      intro N10 t10
      have sF := sF.trans t10
      simp (disch := omega) [tup2]
      refine spec_WordOfLetters vl zl _ _ (rl.sub t10) (by omega) ?_
      intro N11 t11
      have sF := sF.trans t11
      simp (disch := omega) [tup2]
      refine drawNm_does v xs _ _ (hv.sub sF) (by omega) ?_
      intro nl nm N12 t12 hnl
      have sF := sF.trans t12
      simp (disch := omega)
      refine impl_NamedWord nl nm _ _ (by omega) ?_
      simp (disch := omega) [tup2]
      refine spec_NamedWord nl nm _ _ (by omega) ?_
      simp (disch := omega) [tup2]
      exact ret_of (h _ sF)
    · simp (disch := omega) [hc]
      refine drawPw_does v xs _ _ (hv.sub sF) (by omega) ?_
      intro y n N1 t1 hy
      have sF := sF.trans t1
      simp (disch := omega)
      refine impl_PowerOf y n _ _ (by omega) ?_
      intro N2 t2
      have sF := sF.trans t2
      simp (disch := omega) [tup2]
      refine spec_PowerOf y n _ _ (by omega) ?_
      simp (disch := omega) [tup2]
      refine drawRl_does v xs _ _ (hv.sub sF) (by omega) ?_
      intro z vp zp N3 t3 hz hzp rp
      have sF := sF.trans t3
      simp (disch := omega)
      refine impl_RenameLetters z vp zp _ _ rp (by omega) (by omega) ?_
      simp (disch := omega) [tup2]
      refine spec_RenameLetters z vp zp _ _ rp (by omega) (by omega) ?_
      simp (disch := omega) [tup2]
      refine drawCw_does v xs _ _ (hv.sub sF) (by omega) ?_
      intro a b N4 t4 ha hb
      have sF := sF.trans t4
      simp (disch := omega)
      refine impl_CompareWords a b _ _ (by omega) (by omega) ?_
      intro N5 t5
      have sF := sF.trans t5
      simp (disch := omega) [tup2]
      refine spec_CompareWords a b _ _ (by omega) (by omega) ?_
      simp (disch := omega) [tup2]
      refine impl_CommonBeginning a b _ _ (by omega) (by omega) ?_
      intro N6 t6
      have sF := sF.trans t6
      simp (disch := omega) [tup2]
      refine spec_CommonBeginning a b _ _ (by omega) (by omega) ?_
      simp (disch := omega) [tup2]
      refine impl_CommonEnd a b _ _ (by omega) (by omega) ?_
      intro N7 t7
      have sF := sF.trans t7
      simp (disch := omega) [tup2]
      refine spec_CommonEnd a b _ _ (by omega) (by omega) ?_
      intro N8 t8
      have sF := sF.trans t8
      simp (disch := omega) [tup2]
      refine drawWl_does v xs _ _ (hv.sub sF) (by omega) ?_
      intro vl zl N9 t9 hzl rl
      have sF := sF.trans t9
      simp (disch := omega)
      refine impl_WordOfLetters vl zl _ _ rl (by omega) ?_
      intro N10 t10
      have sF := sF.trans t10
      simp (disch := omega) [tup2]
      refine spec_WordOfLetters vl zl _ _ (rl.sub t10) (by omega) ?_
      intro N11 t11
      have sF := sF.trans t11
      simp (disch := omega) [tup2]
      refine drawNm_does v xs _ _ (hv.sub sF) (by omega) ?_
      intro nl nm N12 t12 hnl
      have sF := sF.trans t12
      simp (disch := omega)
      refine impl_NamedWord nl nm _ _ (by omega) ?_
      simp (disch := omega) [tup2]
      refine spec_NamedWord nl nm _ _ (by omega) ?_
      simp (disch := omega) [tup2]
      exact ret_of (h _ sF)
end Go.Proofs.YtbefijbmgmbphaaGreat

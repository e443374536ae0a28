/- Law: factors stand at their places; different factors are in order; scattered words are counted. -/
import Derived.Test.YticejlplbibegaaGreatC82
import Derived.Test.YticejlplbibegaaGreatC83
import Derived.Test.YticejlplbibegaaGreatC16
import Derived.Test.YticejlplbibegaaGreatC44
namespace Go.Proofs.YticejlplbibegaaGreat
open Go
set_option linter.unusedSimpArgs false
set_option linter.unusedVariables false

theorem spec_ReverseOf (w : List UInt8) (M : Mem) (R : Value → Mem → Prop) (hl : w.length ≤ 1099511627776) (h : ∀ M', Sub M M' → R (tup2 (str (if isWord w then w.reverse else [])) (wcode w)) M') : Does Tryz.prog 53 [str w] M R := by
  unfold tup2 wcode at h
  refine does_fn tab_ok Tryz.func53 rfl (by kernel_rfl) (by kernel_rfl) Tryz.ntmps53 Tryz.results53 rfl ?_
  simp (disch := omega)
  refine l01Is_does w _ _ hl ?_
  cases hw : isWord w
  · rw [hw] at h
    simp (disch := omega)
    exact ret_of (h _ (Sub.refl _))
  · rw [hw, if_pos rfl, if_pos rfl] at h
    have h60 := isWord_len hw
    simp (disch := omega)
    refine l01Reversed_does w _ _ (by omega) ?_
    intro M' s
    simp (disch := omega)
    exact ret_of (h _ s)
def hasW (l : List (List UInt8)) (u : List UInt8) : Bool := l.contains u
theorem hasW_nil (u : List UInt8) : hasW [] u = false := rfl
theorem wordsR_len (m k : Int) : (wordsR m k).length ≤ 256 := by
  unfold wordsR
  split
  · split
    · rw [allW_len]; assumption
    · exact Nat.zero_le _
  · exact Nat.zero_le _
set_option maxRecDepth 4000 in
set_option maxHeartbeats 4000000 in
theorem law_FnPlacesOfFactors (v : Value) (xs : List UInt8) (M : Mem) (R : Value → Mem → Prop) (hv : Rd M v (bytesV xs)) (hl : xs.length ≤ 9223372036854775807) (h : ∀ M', Sub M M' → R (.bool true) M') : Does Tryz.prog 4 [v] M R := by
  refine does_fn tab_ok Tryz.func4 rfl (by kernel_rfl) (by kernel_rfl) Tryz.ntmps4 Tryz.results4 rfl ?_
  simp (disch := omega)
  refine big_does v xs _ _ hv hl ?_
  by_cases hb : 4096 < xs.length
  · rw [decide_eq_true hb]
    simp (disch := omega)
    exact ret_of (h _ (Sub.refl _))
  rw [decide_eq_false hb]
  simp (disch := omega)
  refine drawPl_does v xs _ _ hv (by omega) ?_
  intro w u M1 sF hw hu
  simp (disch := omega)
  refine impl_PlacesOf w u _ _ (by omega) (by omega) ?_
  intro v1 M2 o1
  have sF := sF.trans o1.sub
  simp (disch := omega) [tup2]
  refine spec_PlacesOf w u _ _ (by omega) (by omega) ?_
  intro v2 M3 o2
  have sF := sF.trans o2.sub
  have r1 := o1.rd.sub o2.sub
  have r2 := o2.rd
  clear o1 o2
  have l1 : (if isWord w && isWord u then numsI (plcL w u) else []).length ≤ 400 := by
    split
    · rw [numsI_len]
      have := plcN_len w u (w.length + 1)
      unfold plcL; omega
    · exact Nat.zero_le _
  simp (disch := omega) [tup2]
  refine likeInts_does v1 v2 _ _ _ _ r1 r2 (by omega) (by omega) ?_
  rw [beq_self_eq_true]
  simp (disch := omega)
  cases hb2 : isWord w && isWord u
  · have e1 : twoC w u = 1 := by unfold twoC; rw [hb2]; rfl
    simp (disch := omega) [e1]
    refine drawCS_does v xs _ _ (hv.sub sF) (by omega) ?_
    intro x y N1 t1 hx hy
    have sF := sF.trans t1
    simp (disch := omega)
    refine impl_CountScattered x y _ _ (by omega) (by omega) ?_
    intro N2 t2
    have sF := sF.trans t2
    simp (disch := omega) [tup2]
    refine spec_CountScattered x y _ _ (by omega) (by omega) ?_
    intro N3 t3
    have sF := sF.trans t3
    simp (disch := omega) [tup2]
    refine impl_IsScattered x y _ _ (by omega) (by omega) ?_
    intro N4 t4
    have sF := sF.trans t4
    simp (disch := omega) [tup2]
    refine spec_IsScattered x y _ _ (by omega) (by omega) ?_
    have hsc : scC x y = 0 → decide (0 < scT x y) = (isWord x && isWord y && (scF x y).isEmpty) := by
      intro h0
      unfold scC at h0
      unfold scT
      cases hb : isWord x && isWord y
      · rw [hb, if_neg (by decide)] at h0; omega
      · rw [hb, if_pos rfl] at h0
        by_cases hk : x.length ≤ 6
        · rw [if_pos rfl, if_pos hk, Bool.true_and, Bool.eq_iff_iff, decide_eq_true_eq, List.isEmpty_iff, ← scN_pos]
          omega
        · rw [if_neg hk] at h0; omega
    generalize scC x y = c1 at *
    generalize scT x y = t1' at *
    generalize (isWord x && isWord y && (scF x y).isEmpty) = b1' at *
    generalize twoC x y = c2' at *
    by_cases c10 : c1 = 0
    · have hsc := hsc c10
      subst c10
      simp (disch := omega) [tup2, hsc]
      refine drawFO_does v xs _ _ (hv.sub sF) (by omega) ?_
      intro z m N5 t5 hz hm
      have sF := sF.trans t5
      simp (disch := omega)
      refine impl_FactorsOf z m _ _ (by omega) ?_
      intro v5 N6 r5 t6
      have sF := sF.trans t6
      simp (disch := omega) [tup2]
      refine spec_FactorsOf z m _ _ (by omega) ?_
      intro v6 N7 r6 t7
      have sF := sF.trans t7
      have r5 := r5.sub t7
      simp (disch := omega) [tup2]
      refine drawFa_does v xs _ _ (hv.sub sF) (by omega) ?_
      intro fw fi fm N8 t8 hfw hfi hfm
      unfold NearOk at hfi hfm
      have sF := sF.trans t8
      have r5 := r5.sub t8
      have r6 := r6.sub t8
      simp (disch := omega)
      refine impl_FactorAt fw fi fm _ _ (by omega) (by omega) (by omega) ?_
      intro N9 t9
      have sF := sF.trans t9
      have r5 := r5.sub t9
      have r6 := r6.sub t9
      simp (disch := omega) [tup2]
      refine spec_FactorAt fw fi fm _ _ (by omega) (by omega) (by omega) ?_
      simp (disch := omega) [tup2]
      refine drawWO_does v xs _ _ (hv.sub sF) (by omega) ?_
      intro a b N10 t10
      have sF := sF.trans t10
      have r5 := r5.sub t10
      have r6 := r6.sub t10
      simp (disch := omega)
      refine impl_WordsOf a b _ _ ?_
      intro v10 N11 o11
      have sF := sF.trans o11.sub
      have r5 := r5.sub o11.sub
      have r6 := r6.sub o11.sub
      have r11 := o11.rd
      simp (disch := omega)
      refine spec_WordsOf a b _ _ ?_
      intro v11 N12 o12
      have sF := sF.trans o12.sub
      have r5 := r5.sub o12.sub
      have r6 := r6.sub o12.sub
      have r11 := r11.sub o12.sub
      have r12 := o12.rd
      have hwl := wordsR_len a b
      simp (disch := omega)
      refine drawCL_does v xs _ _ (hv.sub sF) (by omega) ?_
      intro c N13 t13 hc
      have sF := sF.trans t13
      have r5 := r5.sub t13
      have r6 := r6.sub t13
      have r11 := r11.sub t13
      have r12 := r12.sub t13
      clear o11 o12
      simp (disch := omega)
      refine impl_CountLetters c _ _ (by omega) ?_
      intro v14 N14 o14
      have sF := sF.trans o14.sub
      have r5 := r5.sub o14.sub
      have r6 := r6.sub o14.sub
      have r11 := r11.sub o14.sub
      have r12 := r12.sub o14.sub
      have r14 := o14.rd
      simp (disch := omega)
      refine spec_CountLetters c _ _ (by omega) ?_
      intro v15 N15 o15
      have sF := sF.trans o15.sub
      have r5 := r5.sub o15.sub
      have r6 := r6.sub o15.sub
      have r11 := r11.sub o15.sub
      have r12 := r12.sub o15.sub
      have r14 := r14.sub o15.sub
      have r15 := o15.rd
      simp (disch := omega)
      refine impl_LettersOf c _ _ (by omega) ?_
      intro v16 N16 o16
      have sF := sF.trans o16.sub
      have r5 := r5.sub o16.sub
      have r6 := r6.sub o16.sub
      have r11 := r11.sub o16.sub
      have r12 := r12.sub o16.sub
      have r14 := r14.sub o16.sub
      have r15 := r15.sub o16.sub
      have r16 := o16.rd
      simp (disch := omega)
      refine spec_LettersOf c _ _ (by omega) ?_
      intro v17 N17 o17
      have sF := sF.trans o17.sub
      have r5 := r5.sub o17.sub
      have r6 := r6.sub o17.sub
      have r11 := r11.sub o17.sub
      have r12 := r12.sub o17.sub
      have r14 := r14.sub o17.sub
      have r15 := r15.sub o17.sub
      have r16 := r16.sub o17.sub
      have r17 := o17.rd
      clear o14 o15 o16 o17
      simp (disch := omega)
      refine impl_ReverseOf c _ _ (by omega) ?_
      intro N18 t18
      have sF := sF.trans t18
      have r5 := r5.sub t18
      have r6 := r6.sub t18
      have r11 := r11.sub t18
      have r12 := r12.sub t18
      have r14 := r14.sub t18
      have r15 := r15.sub t18
      have r16 := r16.sub t18
      have r17 := r17.sub t18
      simp (disch := omega) [tup2]
      refine spec_ReverseOf c _ _ (by omega) ?_
      intro N19 t19
      have sF := sF.trans t19
      have r5 := r5.sub t19
      have r6 := r6.sub t19
      have r11 := r11.sub t19
      have r12 := r12.sub t19
      have r14 := r14.sub t19
      have r15 := r15.sub t19
      have r16 := r16.sub t19
      have r17 := r17.sub t19
      have l5 := fofL_len z m
      have l14 : (if isWord c then counts c else []).length ≤ 5 := by
        split
        · exact Nat.le_of_eq rfl
        · exact Nat.zero_le _
      have l16 : (if isWord c then nums c else []).length ≤ 300 := by
        split
        · unfold nums; rw [List.length_map]; exact hc
        · exact Nat.zero_le _
      generalize fofL z m = F5 at *
      generalize wordsR a b = F11 at *
      generalize (if isWord c then counts c else []) = F14 at *
      generalize (if isWord c then nums c else []) = F16 at *
      simp (disch := omega) [tup2]
      refine words5_does v5 v6 F5 F5 _ _ r5 r6 (by omega) (by omega) ?_
      rw [beq_self_eq_true]
      simp (disch := omega)
      refine words5_does v10 v11 F11 F11 _ _ r11 r12 (by omega) (by omega) ?_
      rw [beq_self_eq_true]
      simp (disch := omega)
      refine likeInts_does v14 v15 F14 F14 _ _ r14 r15 (by omega) (by omega) ?_
      rw [beq_self_eq_true]
      simp (disch := omega)
      refine likeInts_does v16 v17 F16 F16 _ _ r16 r17 (by omega) (by omega) ?_
      rw [beq_self_eq_true]
      simp (disch := omega)
      exact ret_of (h _ sF)
    · simp (disch := omega) [tup2, c10]
      refine drawFO_does v xs _ _ (hv.sub sF) (by omega) ?_
      intro z m N5 t5 hz hm
      have sF := sF.trans t5
      simp (disch := omega)
      refine impl_FactorsOf z m _ _ (by omega) ?_
      intro v5 N6 r5 t6
      have sF := sF.trans t6
      simp (disch := omega) [tup2]
      refine spec_FactorsOf z m _ _ (by omega) ?_
      intro v6 N7 r6 t7
      have sF := sF.trans t7
      have r5 := r5.sub t7
      simp (disch := omega) [tup2]
      refine drawFa_does v xs _ _ (hv.sub sF) (by omega) ?_
      intro fw fi fm N8 t8 hfw hfi hfm
      unfold NearOk at hfi hfm
      have sF := sF.trans t8
      have r5 := r5.sub t8
      have r6 := r6.sub t8
      simp (disch := omega)
      refine impl_FactorAt fw fi fm _ _ (by omega) (by omega) (by omega) ?_
      intro N9 t9
      have sF := sF.trans t9
      have r5 := r5.sub t9
      have r6 := r6.sub t9
      simp (disch := omega) [tup2]
      refine spec_FactorAt fw fi fm _ _ (by omega) (by omega) (by omega) ?_
      simp (disch := omega) [tup2]
      refine drawWO_does v xs _ _ (hv.sub sF) (by omega) ?_
      intro a b N10 t10
      have sF := sF.trans t10
      have r5 := r5.sub t10
      have r6 := r6.sub t10
      simp (disch := omega)
      refine impl_WordsOf a b _ _ ?_
      intro v10 N11 o11
      have sF := sF.trans o11.sub
      have r5 := r5.sub o11.sub
      have r6 := r6.sub o11.sub
      have r11 := o11.rd
      simp (disch := omega)
      refine spec_WordsOf a b _ _ ?_
      intro v11 N12 o12
      have sF := sF.trans o12.sub
      have r5 := r5.sub o12.sub
      have r6 := r6.sub o12.sub
      have r11 := r11.sub o12.sub
      have r12 := o12.rd
      have hwl := wordsR_len a b
      simp (disch := omega)
      refine drawCL_does v xs _ _ (hv.sub sF) (by omega) ?_
      intro c N13 t13 hc
      have sF := sF.trans t13
      have r5 := r5.sub t13
      have r6 := r6.sub t13
      have r11 := r11.sub t13
      have r12 := r12.sub t13
      clear o11 o12
      simp (disch := omega)
      refine impl_CountLetters c _ _ (by omega) ?_
      intro v14 N14 o14
      have sF := sF.trans o14.sub
      have r5 := r5.sub o14.sub
      have r6 := r6.sub o14.sub
      have r11 := r11.sub o14.sub
      have r12 := r12.sub o14.sub
      have r14 := o14.rd
      simp (disch := omega)
      refine spec_CountLetters c _ _ (by omega) ?_
      intro v15 N15 o15
      have sF := sF.trans o15.sub
      have r5 := r5.sub o15.sub
      have r6 := r6.sub o15.sub
      have r11 := r11.sub o15.sub
      have r12 := r12.sub o15.sub
      have r14 := r14.sub o15.sub
      have r15 := o15.rd
      simp (disch := omega)
      refine impl_LettersOf c _ _ (by omega) ?_
      intro v16 N16 o16
      have sF := sF.trans o16.sub
      have r5 := r5.sub o16.sub
      have r6 := r6.sub o16.sub
      have r11 := r11.sub o16.sub
      have r12 := r12.sub o16.sub
      have r14 := r14.sub o16.sub
      have r15 := r15.sub o16.sub
      have r16 := o16.rd
      simp (disch := omega)
      refine spec_LettersOf c _ _ (by omega) ?_
      intro v17 N17 o17
      have sF := sF.trans o17.sub
      have r5 := r5.sub o17.sub
      have r6 := r6.sub o17.sub
      have r11 := r11.sub o17.sub
      have r12 := r12.sub o17.sub
      have r14 := r14.sub o17.sub
      have r15 := r15.sub o17.sub
      have r16 := r16.sub o17.sub
      have r17 := o17.rd
      clear o14 o15 o16 o17
      simp (disch := omega)
      refine impl_ReverseOf c _ _ (by omega) ?_
      intro N18 t18
      have sF := sF.trans t18
      have r5 := r5.sub t18
      have r6 := r6.sub t18
      have r11 := r11.sub t18
      have r12 := r12.sub t18
      have r14 := r14.sub t18
      have r15 := r15.sub t18
      have r16 := r16.sub t18
      have r17 := r17.sub t18
      simp (disch := omega) [tup2]
      refine spec_ReverseOf c _ _ (by omega) ?_
      intro N19 t19
      have sF := sF.trans t19
      have r5 := r5.sub t19
      have r6 := r6.sub t19
      have r11 := r11.sub t19
      have r12 := r12.sub t19
      have r14 := r14.sub t19
      have r15 := r15.sub t19
      have r16 := r16.sub t19
      have r17 := r17.sub t19
      have l5 := fofL_len z m
      have l14 : (if isWord c then counts c else []).length ≤ 5 := by
        split
        · exact Nat.le_of_eq rfl
        · exact Nat.zero_le _
      have l16 : (if isWord c then nums c else []).length ≤ 300 := by
        split
        · unfold nums; rw [List.length_map]; exact hc
        · exact Nat.zero_le _
      generalize fofL z m = F5 at *
      generalize wordsR a b = F11 at *
      generalize (if isWord c then counts c else []) = F14 at *
      generalize (if isWord c then nums c else []) = F16 at *
      simp (disch := omega) [tup2]
      refine words5_does v5 v6 F5 F5 _ _ r5 r6 (by omega) (by omega) ?_
      rw [beq_self_eq_true]
      simp (disch := omega)
      refine words5_does v10 v11 F11 F11 _ _ r11 r12 (by omega) (by omega) ?_
      rw [beq_self_eq_true]
      simp (disch := omega)
      refine likeInts_does v14 v15 F14 F14 _ _ r14 r15 (by omega) (by omega) ?_
      rw [beq_self_eq_true]
      simp (disch := omega)
      refine likeInts_does v16 v17 F16 F16 _ _ r16 r17 (by omega) (by omega) ?_
      rw [beq_self_eq_true]
      simp (disch := omega)
      exact ret_of (h _ sF)
  · have e1 : twoC w u = 0 := by unfold twoC; rw [hb2]; rfl
    have e3 : twoC u w = 0 := by unfold twoC; rw [Bool.and_comm, hb2]; rfl
    have hb3 : (isWord u && isWord w) = true := by rw [Bool.and_comm]; exact hb2
    rw [Bool.and_eq_true] at hb2
    obtain ⟨hw1, hu1⟩ := hb2
    have w60 := isWord_len hw1
    have u60 := isWord_len hu1
    rw [hw1, hu1] at r1 r2 l1
    simp (disch := omega) at r1 r2 l1
    obtain ⟨a1, c1, rfl, ha1⟩ := r1.opened
    rw [ints_length] at ha1
    have hpl := fun i (hi : i ∈ plcL w u) => plcL_at hi
    have hlast : hasW (facL w u.length) u = decide (0 < (plcL w u).length) := by
      unfold hasW
      rw [Bool.eq_iff_iff, List.contains_iff_mem, facL_has, decide_eq_true_eq, List.length_pos_iff]
    have hsc : 0 < (plcL w u).length → (scF u w).isEmpty = true := fun hp => List.isEmpty_iff.2 (plc_sc (List.length_pos_iff.1 hp))
    rw [ints_length]
    rw [numsI_len] at ha1 l1 ⊢
    simp (disch := omega) [e1]
    refine loop_to tab_ok [2, 9, 10, 11, 90, 91, 92, 93, 94, 95, 96, 97, 98, 99, 100, 101, 102, 103, 104, 105, 106, 107, 108, 109, 110, 111, 112, 113] (fun i : Nat => [(9, .int .i64 i)]) (fun i M' => Sub M3 M' ∧ i ≤ (plcL w u).length) (fun i => (plcL w u).length - i) 0 (by kernel_rfl) (by simp (disch := omega)) ⟨Sub.refl _, by omega⟩ ?_
    rintro i M' g ⟨sI, hi⟩
    by_cases hlt : i < (plcL w u).length
    · rcases ha1 with h0 | ⟨bb, oo, rfl, ha1⟩
      · omega
      have hg := ha1 i hlt
      rw [ints_get] at hg
      have hgx : (numsI (plcL w u))[i]? = some (((plcL w u)[i] : Nat) : Int) := by unfold numsI; rw [List.getElem?_map, List.getElem?_eq_getElem hlt]; rfl
      rw [hgx, Option.map_some] at hg
      have hg := get_keep hg sI
      obtain ⟨p1, p2⟩ := hpl _ (List.getElem_mem hlt)
      generalize (plcL w u)[i] = q at *
      have hft : facT w q u.length = u ∧ facC w q u.length = 0 := by
        unfold facT facC facOk
        rw [hw1, decide_eq_true (show 0 ≤ (q : Int) ∧ (q : Int) ≤ w.length by omega), decide_eq_true (show 0 ≤ (u.length : Int) ∧ (u.length : Int) ≤ (w.length : Int) - q by omega)]
        exact ⟨by simpa using p2, rfl⟩
      simp (disch := omega) [hg]
      refine impl_FactorAt w q u.length _ _ (by omega) (by omega) (by omega) ?_
      intro M4 s4
      rw [hft.1, hft.2]
      simp (disch := omega) [tup2]
      refine Rnd.mk' (i + 1) (by omega) (by (repeat (first | exact km | refine kp rfl ?_ | refine km' rfl ?_))) (by simp (disch := omega)) ⟨sI.trans s4, by omega⟩
    · simp (disch := omega)
      refine impl_FactorsOf w u.length _ _ (by omega) ?_
      intro v3 M4 r3 s4
      have sF := (sF.trans sI).trans s4
      have hfl : fofL w u.length = facL w u.length ∧ fofC w u.length = 0 := by
        unfold fofL fofC
        rw [hw1, if_pos rfl, if_pos rfl, if_pos (show 0 ≤ (u.length : Int) ∧ (u.length : Int) ≤ 60 by omega), if_pos (show 0 ≤ (u.length : Int) ∧ (u.length : Int) ≤ 60 by omega), Int.toNat_natCast]
        exact ⟨rfl, rfl⟩
      rw [hfl.1] at r3
      rw [hfl.2]
      have hst := facL_strict w u.length
      have hfl2 := facL_len w60 u.length
      generalize facL w u.length = F at *
      obtain ⟨a3, c3, rfl, ha3⟩ := r3.opened
      rw [strs_length] at ha3 ⊢
      simp (disch := omega) [tup2]
      refine loop_to tab_ok [2, 14, 15, 121, 122, 123, 124, 125, 126, 127, 128, 129, 130, 131, 132, 133, 134, 135, 136, 137, 138, 139, 140, 141, 142, 143, 144, 145, 146, 147, 148, 149] (fun i : Nat => [(15, .int .i64 i), (14, .bool (hasW (F.take i) u))]) (fun i M' => M4 = M' ∧ i ≤ F.length) (fun i => F.length - i) 0 (by kernel_rfl) (by simp (disch := omega) [hasW_nil]) ⟨rfl, by omega⟩ ?_
      rintro j M' g2 ⟨rfl, hj⟩
      by_cases hlt2 : j < F.length
      · rcases ha3 with h0 | ⟨b3, o3, rfl, ha3⟩
        · omega
        have hg := ha3 j hlt2
        rw [strs_get, List.getElem?_eq_getElem hlt2, Option.map_some] at hg
        have htk := take_snoc F hlt2
        have hct : hasW (F.take (j + 1)) u = (hasW (F.take j) u || (F[j] == u)) := by
          unfold hasW
          rw [htk, Bool.eq_iff_iff, Bool.or_eq_true, List.contains_iff_mem, List.contains_iff_mem, beq_iff_eq, List.mem_append, List.mem_singleton]
          exact ⟨fun hh => hh.imp_right Eq.symm, fun hh => hh.imp_right Eq.symm⟩
        by_cases hj0 : 0 < j
        · obtain ⟨k, rfl⟩ : ∃ k, j = k + 1 := ⟨j - 1, by omega⟩
          have hgk := ha3 k (by omega)
          rw [strs_get, List.getElem?_eq_getElem (by omega), Option.map_some] at hgk
          have hlk : Op.bytesLess F[k] F[k + 1] = true := (bl_iff _ _).2 (List.pairwise_iff_getElem.1 hst k (k + 1) (by omega) hlt2 (by omega))
          have e1 : ((k + 1 : Nat) : Int) - 1 = k := by omega
          generalize F[k + 1] = y at *
          generalize F[k]'(by omega) = y0 at *
          generalize hct0 : hasW (F.take (k + 1)) u = ct0 at *
          have hlt2' : ((k + 1 : Nat) : Int) < (F.length : Int) := by omega
          cases ct0
          · simp (disch := omega) [hg]
            refine draw_to tab_ok (by kernel_rfl) (by kernel_rfl) (by rfl) ?_
            simp (disch := omega) [hg, hgk, hlk]
            exact Rnd.mk' (k + 1 + 1) (by omega) (by (repeat (first | exact km | refine kp rfl ?_ | refine km' rfl ?_))) (by simp (disch := omega) [hct]) ⟨rfl, by omega⟩
          · simp (disch := omega) [hg]
            refine draw_to tab_ok (by kernel_rfl) (by kernel_rfl) (by rfl) ?_
            simp (disch := omega) [hg, hgk, hlk]
            exact Rnd.mk' (k + 1 + 1) (by omega) (by (repeat (first | exact km | refine kp rfl ?_ | refine km' rfl ?_))) (by simp (disch := omega) [hct]) ⟨rfl, by omega⟩
        · have hj0' : j = 0 := by omega
          subst hj0'
          have e0 : hasW (F.take 0) u = false := rfl
          rw [e0] at hct ⊢
          rw [Nat.add_zero] at hg
          generalize F[0] = y at *
          have hlt3 : (0 : Int) < (F.length : Int) := by omega
          simp (disch := omega) [hg, hlt2, hlt3]
          refine draw_to tab_ok (by kernel_rfl) (by kernel_rfl) (by rfl) ?_
          simp (disch := omega) [hg]
          exact Rnd.mk' 1 (by omega) (by (repeat (first | exact km | refine kp rfl ?_ | refine km' rfl ?_))) (by simp (disch := omega) [hct]) ⟨rfl, by omega⟩
      · have hj' : j = F.length := by omega
        subst hj'
        rw [List.take_length, hlast]
        have r5 := r3
        clear r3 ha3 hst
        simp (disch := omega)
        refine impl_IsScattered u w _ _ (by omega) (by omega) ?_
        intro M5 s5
        have sF := sF.trans s5
        rw [hb3, Bool.true_and, e3]
        clear hpl ha1 r1 r2 r5 l1 hlast
        by_cases hp0 : 0 < (plcL w u).length
        · have hsc := hsc hp0
          have hp0' : (0 : Int) < ((plcL w u).length : Nat) := by omega
          rw [decide_eq_true hp0]
          simp (disch := omega) [tup2, hp0, hp0', hsc]
          refine drawCS_does v xs _ _ (hv.sub sF) (by omega) ?_
          intro x y N1 t1 hx hy
          have sF := sF.trans t1
          simp (disch := omega)
          refine impl_CountScattered x y _ _ (by omega) (by omega) ?_
          intro N2 t2
          have sF := sF.trans t2
          simp (disch := omega) [tup2]
          refine spec_CountScattered x y _ _ (by omega) (by omega) ?_
          intro N3 t3
          have sF := sF.trans t3
          simp (disch := omega) [tup2]
          refine impl_IsScattered x y _ _ (by omega) (by omega) ?_
          intro N4 t4
          have sF := sF.trans t4
          simp (disch := omega) [tup2]
          refine spec_IsScattered x y _ _ (by omega) (by omega) ?_
          have hsc : scC x y = 0 → decide (0 < scT x y) = (isWord x && isWord y && (scF x y).isEmpty) := by
            intro h0
            unfold scC at h0
            unfold scT
            cases hb : isWord x && isWord y
            · rw [hb, if_neg (by decide)] at h0; omega
            · rw [hb, if_pos rfl] at h0
              by_cases hk : x.length ≤ 6
              · rw [if_pos rfl, if_pos hk, Bool.true_and, Bool.eq_iff_iff, decide_eq_true_eq, List.isEmpty_iff, ← scN_pos]
                omega
              · rw [if_neg hk] at h0; omega
          generalize scC x y = c1 at *
          generalize scT x y = t1' at *
          generalize (isWord x && isWord y && (scF x y).isEmpty) = b1' at *
          generalize twoC x y = c2' at *
          by_cases c10 : c1 = 0
          · have hsc := hsc c10
            subst c10
            simp (disch := omega) [tup2, hsc]
            refine drawFO_does v xs _ _ (hv.sub sF) (by omega) ?_
            intro z m N5 t5 hz hm
            have sF := sF.trans t5
            simp (disch := omega)
            refine impl_FactorsOf z m _ _ (by omega) ?_
            intro v5 N6 r5 t6
            have sF := sF.trans t6
            simp (disch := omega) [tup2]
            refine spec_FactorsOf z m _ _ (by omega) ?_
            intro v6 N7 r6 t7
            have sF := sF.trans t7
            have r5 := r5.sub t7
            simp (disch := omega) [tup2]
            refine drawFa_does v xs _ _ (hv.sub sF) (by omega) ?_
            intro fw fi fm N8 t8 hfw hfi hfm
            unfold NearOk at hfi hfm
            have sF := sF.trans t8
            have r5 := r5.sub t8
            have r6 := r6.sub t8
            simp (disch := omega)
            refine impl_FactorAt fw fi fm _ _ (by omega) (by omega) (by omega) ?_
            intro N9 t9
            have sF := sF.trans t9
            have r5 := r5.sub t9
            have r6 := r6.sub t9
            simp (disch := omega) [tup2]
            refine spec_FactorAt fw fi fm _ _ (by omega) (by omega) (by omega) ?_
            simp (disch := omega) [tup2]
            refine drawWO_does v xs _ _ (hv.sub sF) (by omega) ?_
            intro a b N10 t10
            have sF := sF.trans t10
            have r5 := r5.sub t10
            have r6 := r6.sub t10
            simp (disch := omega)
            refine impl_WordsOf a b _ _ ?_
            intro v10 N11 o11
            have sF := sF.trans o11.sub
            have r5 := r5.sub o11.sub
            have r6 := r6.sub o11.sub
            have r11 := o11.rd
            simp (disch := omega)
            refine spec_WordsOf a b _ _ ?_
            intro v11 N12 o12
            have sF := sF.trans o12.sub
            have r5 := r5.sub o12.sub
            have r6 := r6.sub o12.sub
            have r11 := r11.sub o12.sub
            have r12 := o12.rd
            have hwl := wordsR_len a b
            simp (disch := omega)
            refine drawCL_does v xs _ _ (hv.sub sF) (by omega) ?_
            intro c N13 t13 hc
            have sF := sF.trans t13
            have r5 := r5.sub t13
            have r6 := r6.sub t13
            have r11 := r11.sub t13
            have r12 := r12.sub t13
            clear o11 o12
            simp (disch := omega)
            refine impl_CountLetters c _ _ (by omega) ?_
            intro v14 N14 o14
            have sF := sF.trans o14.sub
            have r5 := r5.sub o14.sub
            have r6 := r6.sub o14.sub
            have r11 := r11.sub o14.sub
            have r12 := r12.sub o14.sub
            have r14 := o14.rd
            simp (disch := omega)
            refine spec_CountLetters c _ _ (by omega) ?_
            intro v15 N15 o15
            have sF := sF.trans o15.sub
            have r5 := r5.sub o15.sub
            have r6 := r6.sub o15.sub
            have r11 := r11.sub o15.sub
            have r12 := r12.sub o15.sub
            have r14 := r14.sub o15.sub
            have r15 := o15.rd
            simp (disch := omega)
            refine impl_LettersOf c _ _ (by omega) ?_
            intro v16 N16 o16
            have sF := sF.trans o16.sub
            have r5 := r5.sub o16.sub
            have r6 := r6.sub o16.sub
            have r11 := r11.sub o16.sub
            have r12 := r12.sub o16.sub
            have r14 := r14.sub o16.sub
            have r15 := r15.sub o16.sub
            have r16 := o16.rd
            simp (disch := omega)
            refine spec_LettersOf c _ _ (by omega) ?_
            intro v17 N17 o17
            have sF := sF.trans o17.sub
            have r5 := r5.sub o17.sub
            have r6 := r6.sub o17.sub
            have r11 := r11.sub o17.sub
            have r12 := r12.sub o17.sub
            have r14 := r14.sub o17.sub
            have r15 := r15.sub o17.sub
            have r16 := r16.sub o17.sub
            have r17 := o17.rd
            clear o14 o15 o16 o17
            simp (disch := omega)
            refine impl_ReverseOf c _ _ (by omega) ?_
            intro N18 t18
            have sF := sF.trans t18
            have r5 := r5.sub t18
            have r6 := r6.sub t18
            have r11 := r11.sub t18
            have r12 := r12.sub t18
            have r14 := r14.sub t18
            have r15 := r15.sub t18
            have r16 := r16.sub t18
            have r17 := r17.sub t18
            simp (disch := omega) [tup2]
            refine spec_ReverseOf c _ _ (by omega) ?_
            intro N19 t19
            have sF := sF.trans t19
            have r5 := r5.sub t19
            have r6 := r6.sub t19
            have r11 := r11.sub t19
            have r12 := r12.sub t19
            have r14 := r14.sub t19
            have r15 := r15.sub t19
            have r16 := r16.sub t19
            have r17 := r17.sub t19
            have l5 := fofL_len z m
            have l14 : (if isWord c then counts c else []).length ≤ 5 := by
              split
              · exact Nat.le_of_eq rfl
              · exact Nat.zero_le _
            have l16 : (if isWord c then nums c else []).length ≤ 300 := by
              split
              · unfold nums; rw [List.length_map]; exact hc
              · exact Nat.zero_le _
            generalize fofL z m = F5 at *
            generalize wordsR a b = F11 at *
            generalize (if isWord c then counts c else []) = F14 at *
            generalize (if isWord c then nums c else []) = F16 at *
            simp (disch := omega) [tup2]
            refine words5_does v5 v6 F5 F5 _ _ r5 r6 (by omega) (by omega) ?_
            rw [beq_self_eq_true]
            simp (disch := omega)
            refine words5_does v10 v11 F11 F11 _ _ r11 r12 (by omega) (by omega) ?_
            rw [beq_self_eq_true]
            simp (disch := omega)
            refine likeInts_does v14 v15 F14 F14 _ _ r14 r15 (by omega) (by omega) ?_
            rw [beq_self_eq_true]
            simp (disch := omega)
            refine likeInts_does v16 v17 F16 F16 _ _ r16 r17 (by omega) (by omega) ?_
            rw [beq_self_eq_true]
            simp (disch := omega)
            exact ret_of (h _ sF)
          · simp (disch := omega) [tup2, c10]
            refine drawFO_does v xs _ _ (hv.sub sF) (by omega) ?_
            intro z m N5 t5 hz hm
            have sF := sF.trans t5
            simp (disch := omega)
            refine impl_FactorsOf z m _ _ (by omega) ?_
            intro v5 N6 r5 t6
            have sF := sF.trans t6
            simp (disch := omega) [tup2]
            refine spec_FactorsOf z m _ _ (by omega) ?_
            intro v6 N7 r6 t7
            have sF := sF.trans t7
            have r5 := r5.sub t7
            simp (disch := omega) [tup2]
            refine drawFa_does v xs _ _ (hv.sub sF) (by omega) ?_
            intro fw fi fm N8 t8 hfw hfi hfm
            unfold NearOk at hfi hfm
            have sF := sF.trans t8
            have r5 := r5.sub t8
            have r6 := r6.sub t8
            simp (disch := omega)
            refine impl_FactorAt fw fi fm _ _ (by omega) (by omega) (by omega) ?_
            intro N9 t9
            have sF := sF.trans t9
            have r5 := r5.sub t9
            have r6 := r6.sub t9
            simp (disch := omega) [tup2]
            refine spec_FactorAt fw fi fm _ _ (by omega) (by omega) (by omega) ?_
            simp (disch := omega) [tup2]
            refine drawWO_does v xs _ _ (hv.sub sF) (by omega) ?_
            intro a b N10 t10
            have sF := sF.trans t10
            have r5 := r5.sub t10
            have r6 := r6.sub t10
            simp (disch := omega)
            refine impl_WordsOf a b _ _ ?_
            intro v10 N11 o11
            have sF := sF.trans o11.sub
            have r5 := r5.sub o11.sub
            have r6 := r6.sub o11.sub
            have r11 := o11.rd
            simp (disch := omega)
            refine spec_WordsOf a b _ _ ?_
            intro v11 N12 o12
            have sF := sF.trans o12.sub
            have r5 := r5.sub o12.sub
            have r6 := r6.sub o12.sub
            have r11 := r11.sub o12.sub
            have r12 := o12.rd
            have hwl := wordsR_len a b
            simp (disch := omega)
            refine drawCL_does v xs _ _ (hv.sub sF) (by omega) ?_
            intro c N13 t13 hc
            have sF := sF.trans t13
            have r5 := r5.sub t13
            have r6 := r6.sub t13
            have r11 := r11.sub t13
            have r12 := r12.sub t13
            clear o11 o12
            simp (disch := omega)
            refine impl_CountLetters c _ _ (by omega) ?_
            intro v14 N14 o14
            have sF := sF.trans o14.sub
            have r5 := r5.sub o14.sub
            have r6 := r6.sub o14.sub
            have r11 := r11.sub o14.sub
            have r12 := r12.sub o14.sub
            have r14 := o14.rd
            simp (disch := omega)
            refine spec_CountLetters c _ _ (by omega) ?_
            intro v15 N15 o15
            have sF := sF.trans o15.sub
            have r5 := r5.sub o15.sub
            have r6 := r6.sub o15.sub
            have r11 := r11.sub o15.sub
            have r12 := r12.sub o15.sub
            have r14 := r14.sub o15.sub
            have r15 := o15.rd
            simp (disch := omega)
            refine impl_LettersOf c _ _ (by omega) ?_
            intro v16 N16 o16
            have sF := sF.trans o16.sub
            have r5 := r5.sub o16.sub
            have r6 := r6.sub o16.sub
            have r11 := r11.sub o16.sub
            have r12 := r12.sub o16.sub
            have r14 := r14.sub o16.sub
            have r15 := r15.sub o16.sub
            have r16 := o16.rd
            simp (disch := omega)
            refine spec_LettersOf c _ _ (by omega) ?_
            intro v17 N17 o17
            have sF := sF.trans o17.sub
            have r5 := r5.sub o17.sub
            have r6 := r6.sub o17.sub
            have r11 := r11.sub o17.sub
            have r12 := r12.sub o17.sub
            have r14 := r14.sub o17.sub
            have r15 := r15.sub o17.sub
            have r16 := r16.sub o17.sub
            have r17 := o17.rd
            clear o14 o15 o16 o17
            simp (disch := omega)
            refine impl_ReverseOf c _ _ (by omega) ?_
            intro N18 t18
            have sF := sF.trans t18
            have r5 := r5.sub t18
            have r6 := r6.sub t18
            have r11 := r11.sub t18
            have r12 := r12.sub t18
            have r14 := r14.sub t18
            have r15 := r15.sub t18
            have r16 := r16.sub t18
            have r17 := r17.sub t18
            simp (disch := omega) [tup2]
            refine spec_ReverseOf c _ _ (by omega) ?_
            intro N19 t19
            have sF := sF.trans t19
            have r5 := r5.sub t19
            have r6 := r6.sub t19
            have r11 := r11.sub t19
            have r12 := r12.sub t19
            have r14 := r14.sub t19
            have r15 := r15.sub t19
            have r16 := r16.sub t19
            have r17 := r17.sub t19
            have l5 := fofL_len z m
            have l14 : (if isWord c then counts c else []).length ≤ 5 := by
              split
              · exact Nat.le_of_eq rfl
              · exact Nat.zero_le _
            have l16 : (if isWord c then nums c else []).length ≤ 300 := by
              split
              · unfold nums; rw [List.length_map]; exact hc
              · exact Nat.zero_le _
            generalize fofL z m = F5 at *
            generalize wordsR a b = F11 at *
            generalize (if isWord c then counts c else []) = F14 at *
            generalize (if isWord c then nums c else []) = F16 at *
            simp (disch := omega) [tup2]
            refine words5_does v5 v6 F5 F5 _ _ r5 r6 (by omega) (by omega) ?_
            rw [beq_self_eq_true]
            simp (disch := omega)
            refine words5_does v10 v11 F11 F11 _ _ r11 r12 (by omega) (by omega) ?_
            rw [beq_self_eq_true]
            simp (disch := omega)
            refine likeInts_does v14 v15 F14 F14 _ _ r14 r15 (by omega) (by omega) ?_
            rw [beq_self_eq_true]
            simp (disch := omega)
            refine likeInts_does v16 v17 F16 F16 _ _ r16 r17 (by omega) (by omega) ?_
            rw [beq_self_eq_true]
            simp (disch := omega)
            exact ret_of (h _ sF)
        · have hp0' : ¬ (0 : Int) < ((plcL w u).length : Nat) := by omega
          rw [decide_eq_false hp0]
          simp (disch := omega) [tup2, hp0, hp0']
          refine drawCS_does v xs _ _ (hv.sub sF) (by omega) ?_
          intro x y N1 t1 hx hy
          have sF := sF.trans t1
          simp (disch := omega)
          refine impl_CountScattered x y _ _ (by omega) (by omega) ?_
          intro N2 t2
          have sF := sF.trans t2
          simp (disch := omega) [tup2]
          refine spec_CountScattered x y _ _ (by omega) (by omega) ?_
          intro N3 t3
          have sF := sF.trans t3
          simp (disch := omega) [tup2]
          refine impl_IsScattered x y _ _ (by omega) (by omega) ?_
          intro N4 t4
          have sF := sF.trans t4
          simp (disch := omega) [tup2]
          refine spec_IsScattered x y _ _ (by omega) (by omega) ?_
          have hsc : scC x y = 0 → decide (0 < scT x y) = (isWord x && isWord y && (scF x y).isEmpty) := by
            intro h0
            unfold scC at h0
            unfold scT
            cases hb : isWord x && isWord y
            · rw [hb, if_neg (by decide)] at h0; omega
            · rw [hb, if_pos rfl] at h0
              by_cases hk : x.length ≤ 6
              · rw [if_pos rfl, if_pos hk, Bool.true_and, Bool.eq_iff_iff, decide_eq_true_eq, List.isEmpty_iff, ← scN_pos]
                omega
              · rw [if_neg hk] at h0; omega
          generalize scC x y = c1 at *
          generalize scT x y = t1' at *
          generalize (isWord x && isWord y && (scF x y).isEmpty) = b1' at *
          generalize twoC x y = c2' at *
          by_cases c10 : c1 = 0
          · have hsc := hsc c10
            subst c10
            simp (disch := omega) [tup2, hsc]
            refine drawFO_does v xs _ _ (hv.sub sF) (by omega) ?_
            intro z m N5 t5 hz hm
            have sF := sF.trans t5
            simp (disch := omega)
            refine impl_FactorsOf z m _ _ (by omega) ?_
            intro v5 N6 r5 t6
            have sF := sF.trans t6
            simp (disch := omega) [tup2]
            refine spec_FactorsOf z m _ _ (by omega) ?_
            intro v6 N7 r6 t7
            have sF := sF.trans t7
            have r5 := r5.sub t7
            simp (disch := omega) [tup2]
            refine drawFa_does v xs _ _ (hv.sub sF) (by omega) ?_
            intro fw fi fm N8 t8 hfw hfi hfm
            unfold NearOk at hfi hfm
            have sF := sF.trans t8
            have r5 := r5.sub t8
            have r6 := r6.sub t8
            simp (disch := omega)
            refine impl_FactorAt fw fi fm _ _ (by omega) (by omega) (by omega) ?_
            intro N9 t9
            have sF := sF.trans t9
            have r5 := r5.sub t9
            have r6 := r6.sub t9
            simp (disch := omega) [tup2]
            refine spec_FactorAt fw fi fm _ _ (by omega) (by omega) (by omega) ?_
            simp (disch := omega) [tup2]
            refine drawWO_does v xs _ _ (hv.sub sF) (by omega) ?_
            intro a b N10 t10
            have sF := sF.trans t10
            have r5 := r5.sub t10
            have r6 := r6.sub t10
            simp (disch := omega)
            refine impl_WordsOf a b _ _ ?_
            intro v10 N11 o11
            have sF := sF.trans o11.sub
            have r5 := r5.sub o11.sub
            have r6 := r6.sub o11.sub
            have r11 := o11.rd
            simp (disch := omega)
            refine spec_WordsOf a b _ _ ?_
            intro v11 N12 o12
            have sF := sF.trans o12.sub
            have r5 := r5.sub o12.sub
            have r6 := r6.sub o12.sub
            have r11 := r11.sub o12.sub
            have r12 := o12.rd
            have hwl := wordsR_len a b
            simp (disch := omega)
            refine drawCL_does v xs _ _ (hv.sub sF) (by omega) ?_
            intro c N13 t13 hc
            have sF := sF.trans t13
            have r5 := r5.sub t13
            have r6 := r6.sub t13
            have r11 := r11.sub t13
            have r12 := r12.sub t13
            clear o11 o12
            simp (disch := omega)
            refine impl_CountLetters c _ _ (by omega) ?_
            intro v14 N14 o14
            have sF := sF.trans o14.sub
            have r5 := r5.sub o14.sub
            have r6 := r6.sub o14.sub
            have r11 := r11.sub o14.sub
            have r12 := r12.sub o14.sub
            have r14 := o14.rd
            simp (disch := omega)
            refine spec_CountLetters c _ _ (by omega) ?_
            intro v15 N15 o15
            have sF := sF.trans o15.sub
            have r5 := r5.sub o15.sub
            have r6 := r6.sub o15.sub
            have r11 := r11.sub o15.sub
            have r12 := r12.sub o15.sub
            have r14 := r14.sub o15.sub
            have r15 := o15.rd
            simp (disch := omega)
            refine impl_LettersOf c _ _ (by omega) ?_
            intro v16 N16 o16
            have sF := sF.trans o16.sub
            have r5 := r5.sub o16.sub
            have r6 := r6.sub o16.sub
            have r11 := r11.sub o16.sub
            have r12 := r12.sub o16.sub
            have r14 := r14.sub o16.sub
            have r15 := r15.sub o16.sub
            have r16 := o16.rd
            simp (disch := omega)
            refine spec_LettersOf c _ _ (by omega) ?_
            intro v17 N17 o17
            have sF := sF.trans o17.sub
            have r5 := r5.sub o17.sub
            have r6 := r6.sub o17.sub
            have r11 := r11.sub o17.sub
            have r12 := r12.sub o17.sub
            have r14 := r14.sub o17.sub
            have r15 := r15.sub o17.sub
            have r16 := r16.sub o17.sub
            have r17 := o17.rd
            clear o14 o15 o16 o17
            simp (disch := omega)
            refine impl_ReverseOf c _ _ (by omega) ?_
            intro N18 t18
            have sF := sF.trans t18
            have r5 := r5.sub t18
            have r6 := r6.sub t18
            have r11 := r11.sub t18
            have r12 := r12.sub t18
            have r14 := r14.sub t18
            have r15 := r15.sub t18
            have r16 := r16.sub t18
            have r17 := r17.sub t18
            simp (disch := omega) [tup2]
            refine spec_ReverseOf c _ _ (by omega) ?_
            intro N19 t19
            have sF := sF.trans t19
            have r5 := r5.sub t19
            have r6 := r6.sub t19
            have r11 := r11.sub t19
            have r12 := r12.sub t19
            have r14 := r14.sub t19
            have r15 := r15.sub t19
            have r16 := r16.sub t19
            have r17 := r17.sub t19
            have l5 := fofL_len z m
            have l14 : (if isWord c then counts c else []).length ≤ 5 := by
              split
              · exact Nat.le_of_eq rfl
              · exact Nat.zero_le _
            have l16 : (if isWord c then nums c else []).length ≤ 300 := by
              split
              · unfold nums; rw [List.length_map]; exact hc
              · exact Nat.zero_le _
            generalize fofL z m = F5 at *
            generalize wordsR a b = F11 at *
            generalize (if isWord c then counts c else []) = F14 at *
            generalize (if isWord c then nums c else []) = F16 at *
            simp (disch := omega) [tup2]
            refine words5_does v5 v6 F5 F5 _ _ r5 r6 (by omega) (by omega) ?_
            rw [beq_self_eq_true]
            simp (disch := omega)
            refine words5_does v10 v11 F11 F11 _ _ r11 r12 (by omega) (by omega) ?_
            rw [beq_self_eq_true]
            simp (disch := omega)
            refine likeInts_does v14 v15 F14 F14 _ _ r14 r15 (by omega) (by omega) ?_
            rw [beq_self_eq_true]
            simp (disch := omega)
            refine likeInts_does v16 v17 F16 F16 _ _ r16 r17 (by omega) (by omega) ?_
            rw [beq_self_eq_true]
            simp (disch := omega)
            exact ret_of (h _ sF)
          · simp (disch := omega) [tup2, c10]
            refine drawFO_does v xs _ _ (hv.sub sF) (by omega) ?_
            intro z m N5 t5 hz hm
            have sF := sF.trans t5
            simp (disch := omega)
            refine impl_FactorsOf z m _ _ (by omega) ?_
            intro v5 N6 r5 t6
            have sF := sF.trans t6
            simp (disch := omega) [tup2]
            refine spec_FactorsOf z m _ _ (by omega) ?_
            intro v6 N7 r6 t7
            have sF := sF.trans t7
            have r5 := r5.sub t7
            simp (disch := omega) [tup2]
            refine drawFa_does v xs _ _ (hv.sub sF) (by omega) ?_
            intro fw fi fm N8 t8 hfw hfi hfm
            unfold NearOk at hfi hfm
            have sF := sF.trans t8
            have r5 := r5.sub t8
            have r6 := r6.sub t8
            simp (disch := omega)
            refine impl_FactorAt fw fi fm _ _ (by omega) (by omega) (by omega) ?_
            intro N9 t9
            have sF := sF.trans t9
            have r5 := r5.sub t9
            have r6 := r6.sub t9
            simp (disch := omega) [tup2]
            refine spec_FactorAt fw fi fm _ _ (by omega) (by omega) (by omega) ?_
            simp (disch := omega) [tup2]
            refine drawWO_does v xs _ _ (hv.sub sF) (by omega) ?_
            intro a b N10 t10
            have sF := sF.trans t10
            have r5 := r5.sub t10
            have r6 := r6.sub t10
            simp (disch := omega)
            refine impl_WordsOf a b _ _ ?_
            intro v10 N11 o11
            have sF := sF.trans o11.sub
            have r5 := r5.sub o11.sub
            have r6 := r6.sub o11.sub
            have r11 := o11.rd
            simp (disch := omega)
            refine spec_WordsOf a b _ _ ?_
            intro v11 N12 o12
            have sF := sF.trans o12.sub
            have r5 := r5.sub o12.sub
            have r6 := r6.sub o12.sub
            have r11 := r11.sub o12.sub
            have r12 := o12.rd
            have hwl := wordsR_len a b
            simp (disch := omega)
            refine drawCL_does v xs _ _ (hv.sub sF) (by omega) ?_
            intro c N13 t13 hc
            have sF := sF.trans t13
            have r5 := r5.sub t13
            have r6 := r6.sub t13
            have r11 := r11.sub t13
            have r12 := r12.sub t13
            clear o11 o12
            simp (disch := omega)
            refine impl_CountLetters c _ _ (by omega) ?_
            intro v14 N14 o14
            have sF := sF.trans o14.sub
            have r5 := r5.sub o14.sub
            have r6 := r6.sub o14.sub
            have r11 := r11.sub o14.sub
            have r12 := r12.sub o14.sub
            have r14 := o14.rd
            simp (disch := omega)
            refine spec_CountLetters c _ _ (by omega) ?_
            intro v15 N15 o15
            have sF := sF.trans o15.sub
            have r5 := r5.sub o15.sub
            have r6 := r6.sub o15.sub
            have r11 := r11.sub o15.sub
            have r12 := r12.sub o15.sub
            have r14 := r14.sub o15.sub
            have r15 := o15.rd
            simp (disch := omega)
            refine impl_LettersOf c _ _ (by omega) ?_
            intro v16 N16 o16
            have sF := sF.trans o16.sub
            have r5 := r5.sub o16.sub
            have r6 := r6.sub o16.sub
            have r11 := r11.sub o16.sub
            have r12 := r12.sub o16.sub
            have r14 := r14.sub o16.sub
            have r15 := r15.sub o16.sub
            have r16 := o16.rd
            simp (disch := omega)
            refine spec_LettersOf c _ _ (by omega) ?_
            intro v17 N17 o17
            have sF := sF.trans o17.sub
            have r5 := r5.sub o17.sub
            have r6 := r6.sub o17.sub
            have r11 := r11.sub o17.sub
            have r12 := r12.sub o17.sub
            have r14 := r14.sub o17.sub
            have r15 := r15.sub o17.sub
            have r16 := r16.sub o17.sub
            have r17 := o17.rd
            clear o14 o15 o16 o17
            simp (disch := omega)
            refine impl_ReverseOf c _ _ (by omega) ?_
            intro N18 t18
            have sF := sF.trans t18
            have r5 := r5.sub t18
            have r6 := r6.sub t18
            have r11 := r11.sub t18
            have r12 := r12.sub t18
            have r14 := r14.sub t18
            have r15 := r15.sub t18
            have r16 := r16.sub t18
            have r17 := r17.sub t18
            simp (disch := omega) [tup2]
            refine spec_ReverseOf c _ _ (by omega) ?_
            intro N19 t19
            have sF := sF.trans t19
            have r5 := r5.sub t19
            have r6 := r6.sub t19
            have r11 := r11.sub t19
            have r12 := r12.sub t19
            have r14 := r14.sub t19
            have r15 := r15.sub t19
            have r16 := r16.sub t19
            have r17 := r17.sub t19
            have l5 := fofL_len z m
            have l14 : (if isWord c then counts c else []).length ≤ 5 := by
              split
              · exact Nat.le_of_eq rfl
              · exact Nat.zero_le _
            have l16 : (if isWord c then nums c else []).length ≤ 300 := by
              split
              · unfold nums; rw [List.length_map]; exact hc
              · exact Nat.zero_le _
            generalize fofL z m = F5 at *
            generalize wordsR a b = F11 at *
            generalize (if isWord c then counts c else []) = F14 at *
            generalize (if isWord c then nums c else []) = F16 at *
            simp (disch := omega) [tup2]
            refine words5_does v5 v6 F5 F5 _ _ r5 r6 (by omega) (by omega) ?_
            rw [beq_self_eq_true]
            simp (disch := omega)
            refine words5_does v10 v11 F11 F11 _ _ r11 r12 (by omega) (by omega) ?_
            rw [beq_self_eq_true]
            simp (disch := omega)
            refine likeInts_does v14 v15 F14 F14 _ _ r14 r15 (by omega) (by omega) ?_
            rw [beq_self_eq_true]
            simp (disch := omega)
            refine likeInts_does v16 v17 F16 F16 _ _ r16 r17 (by omega) (by omega) ?_
            rw [beq_self_eq_true]
            simp (disch := omega)
            exact ret_of (h _ sF)
end Go.Proofs.YticejlplbibegaaGreat

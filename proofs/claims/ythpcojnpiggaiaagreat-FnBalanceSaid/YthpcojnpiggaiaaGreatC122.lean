/- Law: balanced words of two letters have at most two vectors for a length; periods are abelian periods; first words have no abelian powers. -/
import Derived.Test.YthpcojnpiggaiaaGreatM32
import Derived.Test.YthpcojnpiggaiaaGreatC121
import Derived.Test.YthpcojnpiggaiaaGreatC117
import Derived.Test.YthpcojnpiggaiaaGreatMB
namespace Go.Proofs.YthpcojnpiggaiaaGreat
open Go
set_option linter.unusedSimpArgs false
set_option linter.unusedVariables false

/-- Is a length among the rows with the head 0? -/
def hasP (L : List (List Int)) (z : Int) : Bool := L.any fun r => r == [0, z]
theorem hasP_nil (z : Int) : hasP [] z = false := rfl
theorem hasP_snoc (L : List (List Int)) (r : List Int) (z : Int) : hasP (L ++ [r]) z = (hasP L z || (r == [0, z])) := by simp [hasP]
theorem hasP_of {L : List (List Int)} {z : Int} (h : [0, z] ∈ L) : hasP L z = true := by
  unfold hasP
  rw [List.any_eq_true]
  exact ⟨_, h, beq_self_eq_true _⟩
theorem acR_at (w : List UInt8) {n m : Nat} (h : m < n) : (ints (acR w n))[m]? = some (.int .i64 ((acL w m).length : Nat)) := by
  rw [ints_get]
  unfold acR
  rw [List.getElem?_map, List.getElem?_range h]; rfl
theorem cpR_at (w : List UInt8) {n m : Nat} (h : m < n) : (ints (cpR w n))[m]? = some (.int .i64 ((facL w m).length : Nat)) := by
  rw [ints_get]
  unfold cpR
  rw [List.getElem?_map, List.getElem?_range h]; rfl
set_option maxRecDepth 4000 in
set_option maxHeartbeats 4000000 in
theorem law_FnBalance (v : Value) (xs : List UInt8) (M : Mem) (R : Value → Mem → Prop) (hv : Rd M v (bytesV xs)) (hl : xs.length ≤ 9223372036854775807) (h : ∀ M', Sub M M' → R (.bool true) M') : Does Tryz.prog 4 [v] M R := by
  refine does_fn tab_ok Tryz.func4 rfl (by kernel_rfl) (by kernel_rfl) Tryz.ntmps4 Tryz.results4 rfl ?_
  simp (disch := omega)
  refine big_does v xs _ _ hv hl ?_
  by_cases hb : 4096 < xs.length
  · rw [decide_eq_true hb]
    simp (disch := omega)
    exact ret_of (h _ (Sub.refl _))
  rw [decide_eq_false hb]
  simp (disch := omega)
  refine drawBO_does v xs _ _ hv (by omega) ?_
  intro w M1 sF hwl
  simp (disch := omega)
  refine impl_BalanceOf w _ _ (by omega) ?_
  intro M2 s2
  have sF := sF.trans s2
  have hbi : isWord w = true → 0 ≤ balM w w.length ∧ balM w w.length ≤ 60 := fun hw => balM_in (isWord_len hw) _
  have hpe := perR_len w
  have prw := perR_row (w := w)
  cases hw : isWord w
  · have hwc : wcode w = 1 := by unfold wcode; rw [hw]; rfl
    have hpz : perR w = [] := by unfold perR; rw [hw]; rfl
    rw [hwc]
    simp (disch := omega) [tup2]
    refine spec_BalanceOf w _ _ (by omega) ?_
    rw [hw, hwc]
    intro M3 s3
    have sF := sF.trans s3
    simp (disch := omega) [tup2]
    refine impl_IsBalancedWord w _ _ (by omega) ?_
    rw [hw, hwc]
    intro M4 s4
    have sF := sF.trans s4
    simp (disch := omega) [tup2]
    refine spec_IsBalancedWord w _ _ (by omega) ?_
    rw [hw, hwc]
    intro M5 s5
    have sF := sF.trans s5
    simp (disch := omega) [tup2]
    refine impl_AbelianComplexity w _ _ (by omega) ?_
    rw [hw, hwc]
    intro v1 M6 s6 r1
    have sF := sF.trans s6
    simp (disch := omega) [tup2]
    refine spec_AbelianComplexity w _ _ (by omega) ?_
    rw [hw, hwc]
    intro v2 M7 s7 r2
    have r1 := r1.sub s7
    have sF := sF.trans s7
    simp (disch := omega) [tup2]
    refine impl_AbelianPeriods w _ _ (by omega) ?_
    rw [hpz, hwc]
    intro v3 rs3 M8 M9 ro3 o3
    have t3 := ro3.sub.trans o3.sub
    have r3 := rdSS_of ro3 o3
    have r1 := r1.sub t3
    have r2 := r2.sub t3
    have sF := sF.trans t3
    simp (disch := omega)
    refine spec_AbelianPeriods w _ _ (by omega) ?_
    rw [hpz, hwc]
    intro v4 rs4 M10 M11 ro4 o4
    have t4 := ro4.sub.trans o4.sub
    have r4 := rdSS_of ro4 o4
    have r1 := r1.sub t4
    have r2 := r2.sub t4
    have r3 := r3.sub t4
    have sF := sF.trans t4
    simp (disch := omega)
    refine likeInts_does v1 v2 _ _ _ _ r1 r2 (by simp) (by simp) ?_
    rw [beq_self_eq_true]
    simp (disch := omega)
    refine rows5_does v3 v4 [] [] _ _ r3 r4 (by simp) (by simp) (by simp) (by simp) ?_
    rw [beq_self_eq_true]
    simp (disch := omega)
    refine drawFAF_does v xs _ _ (hv.sub sF) (by omega) ?_
    intro m j k N9 t9 hm
    unfold NearOk at hm
    have sF := sF.trans t9
    simp (disch := omega)
    refine impl_FirstAbelianFree m j k _ _ ?_
    simp (disch := omega) [tup2]
    refine spec_FirstAbelianFree m j k _ _ ?_
    by_cases hf0 : firstAC m j k = 0
    · obtain ⟨f1, f2, f3⟩ := first_pow hf0
      generalize firstAT m j k = u at *
      have hu : u.length ≤ 1099511627776 := by omega
      rw [hf0]
      simp (disch := omega) [tup2]
      refine impl_IsAbelianFree u k _ _ hu ?_
      rw [f1, f2]
      simp (disch := omega) [tup2, f3]
      refine drawSuO_does v xs _ _ (hv.sub sF) (by omega) ?_
      intro x n N1 t1 hx hn
      unfold NearOk at hn
      have sF := sF.trans t1
      simp (disch := omega)
      refine impl_SumsOf x n _ _ (by omega) ?_
      intro v5 N2 o5
      have r5 := o5.rd
      have sF := sF.trans o5.sub
      simp (disch := omega)
      refine spec_SumsOf x n _ _ (by omega) ?_
      intro v6 N3 o6
      have r5 := r5.sub o6.sub
      have r6 := o6.rd
      have sF := sF.trans o6.sub
      clear o5 o6
      simp (disch := omega)
      refine drawAPe_does v xs _ _ (hv.sub sF) (by omega) ?_
      intro y N4 t4 hy
      have r5 := r5.sub t4
      have r6 := r6.sub t4
      have sF := sF.trans t4
      simp (disch := omega)
      refine impl_AbelianPeriods y _ _ (by omega) ?_
      intro v7 rs7 N5 N6 ro7 o7
      have t7 := ro7.sub.trans o7.sub
      have r7 := rdSS_of ro7 o7
      have r5 := r5.sub t7
      have r6 := r6.sub t7
      have sF := sF.trans t7
      simp (disch := omega)
      refine spec_AbelianPeriods y _ _ (by omega) ?_
      intro v8 rs8 N7 N8 ro8 o8
      have t8 := ro8.sub.trans o8.sub
      have r8 := rdSS_of ro8 o8
      have r5 := r5.sub t8
      have r6 := r6.sub t8
      have r7 := r7.sub t8
      have sF := sF.trans t8
      have pl := perR_len y
      have prw := perR_row (w := y)
      have sl := sumsR_len x n
      generalize sumsR x n = S5 at *
      generalize sumsC x n = c5 at *
      generalize perR y = P7 at *
      generalize wcode y = c7 at *
      simp (disch := omega)
      refine likeInts_does v5 v6 S5 S5 _ _ r5 r6 (by omega) (by omega) ?_
      rw [beq_self_eq_true]
      simp (disch := omega)
      refine rows5_does v7 v8 P7 P7 _ _ r7 r8 (by omega) (by omega) (fun r hr => by rw [prw r hr]; omega) (fun r hr => by rw [prw r hr]; omega) ?_
      rw [beq_self_eq_true]
      simp (disch := omega)
      exact ret_of (h _ sF)
    · have hf0b : (firstAC m j k == 0) = false := beq_eq_false_iff_ne.2 hf0
      generalize firstAC m j k = c1 at *
      generalize firstAT m j k = u at *
      simp (disch := omega) [tup2, hf0b, hf0]
      refine drawSuO_does v xs _ _ (hv.sub sF) (by omega) ?_
      intro x n N1 t1 hx hn
      unfold NearOk at hn
      have sF := sF.trans t1
      simp (disch := omega)
      refine impl_SumsOf x n _ _ (by omega) ?_
      intro v5 N2 o5
      have r5 := o5.rd
      have sF := sF.trans o5.sub
      simp (disch := omega)
      refine spec_SumsOf x n _ _ (by omega) ?_
      intro v6 N3 o6
      have r5 := r5.sub o6.sub
      have r6 := o6.rd
      have sF := sF.trans o6.sub
      clear o5 o6
      simp (disch := omega)
      refine drawAPe_does v xs _ _ (hv.sub sF) (by omega) ?_
      intro y N4 t4 hy
      have r5 := r5.sub t4
      have r6 := r6.sub t4
      have sF := sF.trans t4
      simp (disch := omega)
      refine impl_AbelianPeriods y _ _ (by omega) ?_
      intro v7 rs7 N5 N6 ro7 o7
      have t7 := ro7.sub.trans o7.sub
      have r7 := rdSS_of ro7 o7
      have r5 := r5.sub t7
      have r6 := r6.sub t7
      have sF := sF.trans t7
      simp (disch := omega)
      refine spec_AbelianPeriods y _ _ (by omega) ?_
      intro v8 rs8 N7 N8 ro8 o8
      have t8 := ro8.sub.trans o8.sub
      have r8 := rdSS_of ro8 o8
      have r5 := r5.sub t8
      have r6 := r6.sub t8
      have r7 := r7.sub t8
      have sF := sF.trans t8
      have pl := perR_len y
      have prw := perR_row (w := y)
      have sl := sumsR_len x n
      generalize sumsR x n = S5 at *
      generalize sumsC x n = c5 at *
      generalize perR y = P7 at *
      generalize wcode y = c7 at *
      simp (disch := omega)
      refine likeInts_does v5 v6 S5 S5 _ _ r5 r6 (by omega) (by omega) ?_
      rw [beq_self_eq_true]
      simp (disch := omega)
      refine rows5_does v7 v8 P7 P7 _ _ r7 r8 (by omega) (by omega) (fun r hr => by rw [prw r hr]; omega) (fun r hr => by rw [prw r hr]; omega) ?_
      rw [beq_self_eq_true]
      simp (disch := omega)
      exact ret_of (h _ sF)
  · have hwc : wcode w = 0 := by unfold wcode; rw [hw]; rfl
    have h60 := isWord_len hw
    have hbi := hbi hw
    rw [hwc]
    simp (disch := omega) [tup2]
    refine spec_BalanceOf w _ _ (by omega) ?_
    rw [hw, hwc]
    intro M3 s3
    have sF := sF.trans s3
    simp (disch := omega) [tup2]
    refine impl_IsBalancedWord w _ _ (by omega) ?_
    rw [hw, hwc]
    intro M4 s4
    have sF := sF.trans s4
    simp (disch := omega) [tup2]
    refine spec_IsBalancedWord w _ _ (by omega) ?_
    rw [hw, hwc]
    intro M5 s5
    have sF := sF.trans s5
    simp (disch := omega) [tup2]
    refine impl_AbelianComplexity w _ _ (by omega) ?_
    rw [hw, if_pos rfl, hwc]
    intro v1 M6 s6 r1
    have sF := sF.trans s6
    simp (disch := omega) [tup2]
    refine spec_AbelianComplexity w _ _ (by omega) ?_
    rw [hw, if_pos rfl, hwc]
    intro v2 M7 s7 r2
    have r1 := r1.sub s7
    have sF := sF.trans s7
    simp (disch := omega) [tup2]
    refine impl_AbelianPeriods w _ _ (by omega) ?_
    rw [hwc]
    intro v3 rs3 M8 M9 ro3 o3
    have t3 := ro3.sub.trans o3.sub
    have r3 := rdSS_of ro3 o3
    have r1 := r1.sub t3
    have r2 := r2.sub t3
    have sF := sF.trans t3
    simp (disch := omega)
    refine spec_AbelianPeriods w _ _ (by omega) ?_
    rw [hwc]
    intro v4 rs4 M10 M11 ro4 o4
    have t4 := ro4.sub.trans o4.sub
    have r4 := rdSS_of ro4 o4
    have r1 := r1.sub t4
    have r2 := r2.sub t4
    have r3 := r3.sub t4
    have sF := sF.trans t4
    clear ro3 o3 ro4 o4
    have hacl := acR_len w (w.length + 1)
    have hcpl := cpR_len w (w.length + 1)
    have haat := fun m (hm : m < w.length + 1) => acR_at w hm
    have hcat := fun m (hm : m < w.length + 1) => cpR_at w hm
    have hle := fun m (hm : m ≤ w.length) => acL_le (w := w) hm
    have hac61 := fun m => acL_len w m
    have hfc61 := fun m => facL_len h60 m
    have htwo := fun (h1 : balM w w.length ≤ 1) (h2 : cnt w 0 + cnt w 1 = (w.length : Int)) m (hm : m ≤ w.length) => bal_two hw h1 h2 hm
    have hpp := fun (z : Int) (hz : z ∈ perL w) => perL_at hz
    have hpr := fun (q : Nat) (h1 : hp w q = true) (h2 : 1 ≤ q) (h3 : q ≤ w.length) => perR_of hw h1 h2 h3
    have hp1 := fun (h0 : 0 < w.length) => perL_pos h0
    have hp2 := fun (h0 : 0 < w.length) => perR_pos hw h0
    have hple := perL_le w
    have c0b := cnt_word h60 0
    have c1b := cnt_word h60 1
    generalize acR w (w.length + 1) = A at *
    generalize perR w = P at *
    generalize balM w w.length = bal at *
    simp (disch := omega)
    refine likeInts_does v1 v2 _ _ _ _ r1 r2 (by omega) (by omega) ?_
    rw [beq_self_eq_true]
    simp (disch := omega)
    refine rows5_does v3 v4 P P _ _ r3 r4 (by omega) (by omega) (fun r hr => by rw [prw r hr]; omega) (fun r hr => by rw [prw r hr]; omega) ?_
    rw [beq_self_eq_true]
    clear r2 r4
    obtain ⟨rs, rd3, n3, row3⟩ := r3
    obtain ⟨a3, c3, rfl, ha3⟩ := rd3.opened
    rw [n3] at ha3 ⊢
    obtain ⟨a1, c1, rfl, ha1⟩ := r1.opened
    rw [ints_length, hacl] at ha1 ⊢
    simp (disch := omega)
    refine impl_CountLetters w _ _ (by omega) ?_
    rw [hw, if_pos rfl, hwc]
    intro v5 M12 o5
    have sX := o5.sub
    have sF := sF.trans o5.sub
    obtain ⟨a5, c5, rfl, ha5⟩ := o5.rd.opened
    rw [ints_length, counts_length] at ha5 ⊢
    rcases ha5 with h0 | ⟨b5, o5', rfl, ha5⟩
    · omega
    have g0 := ha5 0 (by omega)
    have g1 := ha5 1 (by omega)
    have gc0 : (ints (counts w))[0]? = some (.int .i64 (cnt w 0)) := rfl
    have gc1 : (ints (counts w))[1]? = some (.int .i64 (cnt w 1)) := rfl
    rw [gc0, Nat.add_zero] at g0
    rw [gc1] at g1
    clear o5 ha5
    simp (disch := omega)
    refine impl_ComplexityOf w _ _ (by omega) ?_
    rw [hw, if_pos rfl, hwc]
    intro v6 M13 s13 r6
    have sX := sX.trans s13
    have sF := sF.trans s13
    have g0 := sub_getk g0 s13
    have g1 := sub_getk g1 s13
    generalize cpR w (w.length + 1) = C at *
    obtain ⟨a6, c6, rfl, ha6⟩ := r6.opened
    rw [ints_length, hcpl] at ha6 ⊢
    rcases ha1 with h0 | ⟨b1, o1, rfl, ha1⟩
    · omega
    rcases ha6 with h0 | ⟨b6, o6, rfl, ha6⟩
    · omega
    have ha1 : ∀ i, i < w.length + 1 → M13.get? b1 (o1 + i) = (ints A)[i]? := fun i hi => by
      rw [haat i hi]; exact sub_getk ((ha1 i hi).trans (haat i hi)) sX
    simp (disch := omega) [tup2]
    refine loop_to tab_ok [2, 24, 165, 166, 167, 168, 169, 170, 171, 172, 173, 174, 175, 176, 177, 178, 179, 180, 181, 182, 183, 184, 185, 186, 187, 188, 189, 190, 191, 192, 193, 194, 195, 196, 197, 198, 199, 200, 201] (fun i : Nat => [(24, .int .i64 i)]) (fun i N => M13 = N ∧ i ≤ w.length + 1) (fun i => w.length + 1 - i) 0 (by kernel_rfl) (by simp (disch := omega)) ⟨rfl, Nat.zero_le _⟩ ?_
    rintro i N g ⟨rfl, hi⟩
    by_cases hlt : i < w.length + 1
    · have hltI : (i : Int) < (w.length : Int) + 1 := by omega
      have hga := ha1 i hlt
      rw [haat i hlt] at hga
      have hgc := ha6 i hlt
      rw [hcat i hlt] at hgc
      have l1 := hle i (by omega)
      have l2 := hac61 i
      have l3 := hfc61 i
      have htw := fun h1 h2 => htwo h1 h2 i (by omega)
      generalize (acL w i).length = x at *
      generalize (facL w i).length = y at *
      have nyx : ¬ (y : Int) < (x : Int) := by omega
      simp (disch := omega) [hltI]
      refine draw_to tab_ok (by kernel_rfl) (by kernel_rfl) (by rfl) ?_
      by_cases hb1 : bal ≤ 1
      · by_cases hs : cnt w 0 + cnt w 1 = (w.length : Int)
        · have n2 := htw hb1 hs
          have n2I : ¬ (2 : Int) < (x : Int) := by omega
          simp (disch := omega) [hga, hgc, g0, g1, nyx, hb1, hs, n2I]
          exact Rnd.mk' (i + 1) (by omega) (by (repeat (first | exact km | refine kp rfl ?_ | refine km' rfl ?_))) (by simp (disch := omega)) ⟨rfl, by omega⟩
        · have hsb : (cnt w 0 + cnt w 1 == (w.length : Int)) = false := beq_eq_false_iff_ne.2 hs
          simp (disch := omega) [hga, hgc, g0, g1, nyx, hb1, hs, hsb]
          exact Rnd.mk' (i + 1) (by omega) (by (repeat (first | exact km | refine kp rfl ?_ | refine km' rfl ?_))) (by simp (disch := omega)) ⟨rfl, by omega⟩
      · simp (disch := omega) [hga, hgc, g0, g1, nyx, hb1]
        exact Rnd.mk' (i + 1) (by omega) (by (repeat (first | exact km | refine kp rfl ?_ | refine km' rfl ?_))) (by simp (disch := omega)) ⟨rfl, by omega⟩
    · have hltI : ¬ (i : Int) < (w.length : Int) + 1 := by omega
      clear ha1 ha6 g0 g1 r6 r1 haat hcat
      simp (disch := omega) [hltI]
      refine impl_PeriodsOf w _ _ (by omega) ?_
      rw [hw, if_pos rfl, hwc]
      intro v7 M14 o7
      have sX := sX.trans o7.sub
      have sF := sF.trans o7.sub
      have r7 := o7.rd
      clear o7
      generalize perL w = Q at *
      obtain ⟨a7, c7, rfl, ha7⟩ := r7.opened
      rw [ints_length] at ha7 ⊢
      have hb3 : P.length = 0 ∨ ∃ b o, a3 = some ⟨b, o, none⟩ ∧ ∀ i, i < P.length → M14.get? b (o + i) = rs[i]? := by
        rcases ha3 with h0 | ⟨b, o, e, ha3⟩
        · exact .inl h0
        · refine .inr ⟨b, o, e, fun i hi => ?_⟩
          have hir : i < rs.length := by omega
          have := ha3 i hi
          rw [List.getElem?_eq_getElem hir] at this ⊢
          exact sub_getk this sX
      by_cases hw0 : 0 < w.length
      · have q1 := hp1 hw0
        have q2 := hp2 hw0
        have hw0I : (0 : Int) < w.length := by omega
        have q1I : ¬ (Q.length : Int) < 1 := by omega
        have q2I : ¬ (P.length : Int) < 1 := by omega
        simp (disch := omega) [tup2, hw0, hw0I, q1I, q2I]
        refine loop_to tab_ok [2, 27, 28, 29, 224, 225, 226, 227, 228, 229, 230, 231, 232, 233, 234, 235, 236, 237, 238, 239, 240, 241, 242, 243, 244, 245, 246, 247, 248, 249, 250, 251, 252, 253, 254, 255, 256, 257, 258, 259, 260, 261, 262, 263, 264, 265, 266, 267, 268] (fun i : Nat => [(27, .int .i64 i)]) (fun i N => M14 = N ∧ i ≤ Q.length) (fun i => Q.length - i) 0 (by kernel_rfl) (by simp (disch := omega)) ⟨rfl, Nat.zero_le _⟩ ?_
        rintro i N g ⟨rfl, hi⟩
        by_cases hlt : i < Q.length
        · rcases ha7 with h0 | ⟨b7, o7, rfl, ha7⟩
          · omega
          have hg7 := ha7 i hlt
          rw [ints_get, List.getElem?_eq_getElem hlt, Option.map_some] at hg7
          obtain ⟨q, hzq, k1, k2, k3⟩ := hpp _ (List.getElem_mem hlt)
          have hPz := hasP_of (hpr q k3 k1 k2)
          rw [hzq] at hg7
          simp (disch := omega)
          refine loop_to tab_ok [28, 29, 230, 231, 232, 233, 234, 235, 236, 237, 238, 239, 240, 241, 242, 243, 244, 245, 246, 247, 248, 249, 250, 251, 252, 253, 254, 255, 256, 257, 258, 259, 260, 261, 262, 263, 264, 265, 266] (fun k : Nat => [(29, .int .i64 k), (28, .bool (hasP (P.take k) q))]) (fun k N => M14 = N ∧ k ≤ P.length) (fun k => P.length - k) 0 (by kernel_rfl) (by simp (disch := omega) [hasP_nil]) ⟨rfl, Nat.zero_le _⟩ ?_
          rintro k N g2 ⟨rfl, hk⟩
          by_cases hkl : k < P.length
          · rcases hb3 with h0 | ⟨b3, o3, rfl, hb3⟩
            · omega
            obtain ⟨x3, hx3, rx3⟩ := row3 k _ (List.getElem?_eq_getElem hkl)
            have hg3 := hb3 k hkl
            rw [hx3] at hg3
            have hst : hasP (P.take (k + 1)) q = (hasP (P.take k) q || (P[k] == [0, (q : Int)])) := by rw [take_snoc P hkl, hasP_snoc]
            have hr2 := prw _ (List.getElem_mem hkl)
            generalize hasP (P.take k) q = f1 at *
            generalize P[k] = r at *
            rcases r with _ | ⟨r0, _ | ⟨r1, _ | ⟨r2, rr⟩⟩⟩
            · simp at hr2
            · simp at hr2
            · have rx3 := rx3.sub sX
              obtain ⟨ax, cx, rfl, hax⟩ := rx3.opened
              rw [ints_length] at hax hg3
              have hl2 : [r0, r1].length = 2 := rfl
              rw [hl2] at hax hg3
              rcases hax with h0 | ⟨bx, ox, rfl, hax⟩
              · omega
              have hx0 := hax 0 (by omega)
              have hx1 := hax 1 (by omega)
              have e0 : (ints [r0, r1])[0]? = some (.int .i64 r0) := rfl
              have e1 : (ints [r0, r1])[1]? = some (.int .i64 r1) := rfl
              rw [e0, Nat.add_zero] at hx0
              rw [e1] at hx1
              have hkI : (k : Int) < (P.length : Nat) := by omega
              simp (disch := omega) [hkI]
              refine draw_to tab_ok (by kernel_rfl) (by kernel_rfl) (by rfl) ?_
              cases f1
              · by_cases hr0 : r0 = 0
                · by_cases hr1 : r1 = q
                  · have hf2 : hasP (P.take (k + 1)) q = true := by rw [hst, hr0, hr1]; simp
                    simp (disch := omega) [hg3, hx0, hx1, hg7, hr0, hr1]
                    exact Rnd.mk' (k + 1) (by omega) (by (repeat (first | exact km | refine kp rfl ?_ | refine km' rfl ?_))) (by simp (disch := omega) [hf2]) ⟨rfl, by omega⟩
                  · have hf2 : hasP (P.take (k + 1)) q = false := by rw [hst, hr0]; simp [hr1]
                    have hr1b : (r1 == (q : Int)) = false := beq_eq_false_iff_ne.2 hr1
                    simp (disch := omega) [hg3, hx0, hx1, hg7, hr0, hr1, hr1b]
                    exact Rnd.mk' (k + 1) (by omega) (by (repeat (first | exact km | refine kp rfl ?_ | refine km' rfl ?_))) (by simp (disch := omega) [hf2]) ⟨rfl, by omega⟩
                · have hf2 : hasP (P.take (k + 1)) q = false := by rw [hst]; simp [hr0]
                  have hr0b : (r0 == 0) = false := beq_eq_false_iff_ne.2 hr0
                  simp (disch := omega) [hg3, hx0, hx1, hg7, hr0, hr0b]
                  exact Rnd.mk' (k + 1) (by omega) (by (repeat (first | exact km | refine kp rfl ?_ | refine km' rfl ?_))) (by simp (disch := omega) [hf2]) ⟨rfl, by omega⟩
              · have hf2 : hasP (P.take (k + 1)) q = true := by rw [hst]; rfl
                simp (disch := omega) [hg3, hx0, hx1, hg7, undef]
                exact Rnd.mk' (k + 1) (by omega) (by (repeat (first | exact km | refine kp rfl ?_ | refine km' rfl ?_))) (by simp (disch := omega) [hf2]) ⟨rfl, by omega⟩
            · simp at hr2
          · have hkE : k = P.length := by omega
            subst hkE
            rw [List.take_length, hPz]
            simp (disch := omega)
            exact Rnd.mk' (i + 1) (by omega) (by (repeat (first | exact km | refine kp rfl ?_ | refine km' rfl ?_))) (by simp (disch := omega)) ⟨rfl, by omega⟩
        · have hltI : ¬ (i : Int) < (Q.length : Nat) := by omega
          clear hb3 ha3 ha7 row3 rd3 r7 hpp hpr
          simp (disch := omega) [hltI]
          refine drawFAF_does v xs _ _ (hv.sub sF) (by omega) ?_
          intro m j k N9 t9 hm
          unfold NearOk at hm
          have sF := sF.trans t9
          simp (disch := omega)
          refine impl_FirstAbelianFree m j k _ _ ?_
          simp (disch := omega) [tup2]
          refine spec_FirstAbelianFree m j k _ _ ?_
          by_cases hf0 : firstAC m j k = 0
          · obtain ⟨f1, f2, f3⟩ := first_pow hf0
            generalize firstAT m j k = u at *
            have hu : u.length ≤ 1099511627776 := by omega
            rw [hf0]
            simp (disch := omega) [tup2]
            refine impl_IsAbelianFree u k _ _ hu ?_
            rw [f1, f2]
            simp (disch := omega) [tup2, f3]
            refine drawSuO_does v xs _ _ (hv.sub sF) (by omega) ?_
            intro x n N1 t1 hx hn
            unfold NearOk at hn
            have sF := sF.trans t1
            simp (disch := omega)
            refine impl_SumsOf x n _ _ (by omega) ?_
            intro v5 N2 o5
            have r5 := o5.rd
            have sF := sF.trans o5.sub
            simp (disch := omega)
            refine spec_SumsOf x n _ _ (by omega) ?_
            intro v6 N3 o6
            have r5 := r5.sub o6.sub
            have r6 := o6.rd
            have sF := sF.trans o6.sub
            clear o5 o6
            simp (disch := omega)
            refine drawAPe_does v xs _ _ (hv.sub sF) (by omega) ?_
            intro y N4 t4 hy
            have r5 := r5.sub t4
            have r6 := r6.sub t4
            have sF := sF.trans t4
            simp (disch := omega)
            refine impl_AbelianPeriods y _ _ (by omega) ?_
            intro v7 rs7 N5 N6 ro7 o7
            have t7 := ro7.sub.trans o7.sub
            have r7 := rdSS_of ro7 o7
            have r5 := r5.sub t7
            have r6 := r6.sub t7
            have sF := sF.trans t7
            simp (disch := omega)
            refine spec_AbelianPeriods y _ _ (by omega) ?_
            intro v8 rs8 N7 N8 ro8 o8
            have t8 := ro8.sub.trans o8.sub
            have r8 := rdSS_of ro8 o8
            have r5 := r5.sub t8
            have r6 := r6.sub t8
            have r7 := r7.sub t8
            have sF := sF.trans t8
            have pl := perR_len y
            have prw := perR_row (w := y)
            have sl := sumsR_len x n
            generalize sumsR x n = S5 at *
            generalize sumsC x n = c5 at *
            generalize perR y = P7 at *
            generalize wcode y = c7 at *
            simp (disch := omega)
            refine likeInts_does v5 v6 S5 S5 _ _ r5 r6 (by omega) (by omega) ?_
            rw [beq_self_eq_true]
            simp (disch := omega)
            refine rows5_does v7 v8 P7 P7 _ _ r7 r8 (by omega) (by omega) (fun r hr => by rw [prw r hr]; omega) (fun r hr => by rw [prw r hr]; omega) ?_
            rw [beq_self_eq_true]
            simp (disch := omega)
            exact ret_of (h _ sF)
          · have hf0b : (firstAC m j k == 0) = false := beq_eq_false_iff_ne.2 hf0
            generalize firstAC m j k = c1 at *
            generalize firstAT m j k = u at *
            simp (disch := omega) [tup2, hf0b, hf0]
            refine drawSuO_does v xs _ _ (hv.sub sF) (by omega) ?_
            intro x n N1 t1 hx hn
            unfold NearOk at hn
            have sF := sF.trans t1
            simp (disch := omega)
            refine impl_SumsOf x n _ _ (by omega) ?_
            intro v5 N2 o5
            have r5 := o5.rd
            have sF := sF.trans o5.sub
            simp (disch := omega)
            refine spec_SumsOf x n _ _ (by omega) ?_
            intro v6 N3 o6
            have r5 := r5.sub o6.sub
            have r6 := o6.rd
            have sF := sF.trans o6.sub
            clear o5 o6
            simp (disch := omega)
            refine drawAPe_does v xs _ _ (hv.sub sF) (by omega) ?_
            intro y N4 t4 hy
            have r5 := r5.sub t4
            have r6 := r6.sub t4
            have sF := sF.trans t4
            simp (disch := omega)
            refine impl_AbelianPeriods y _ _ (by omega) ?_
            intro v7 rs7 N5 N6 ro7 o7
            have t7 := ro7.sub.trans o7.sub
            have r7 := rdSS_of ro7 o7
            have r5 := r5.sub t7
            have r6 := r6.sub t7
            have sF := sF.trans t7
            simp (disch := omega)
            refine spec_AbelianPeriods y _ _ (by omega) ?_
            intro v8 rs8 N7 N8 ro8 o8
            have t8 := ro8.sub.trans o8.sub
            have r8 := rdSS_of ro8 o8
            have r5 := r5.sub t8
            have r6 := r6.sub t8
            have r7 := r7.sub t8
            have sF := sF.trans t8
            have pl := perR_len y
            have prw := perR_row (w := y)
            have sl := sumsR_len x n
            generalize sumsR x n = S5 at *
            generalize sumsC x n = c5 at *
            generalize perR y = P7 at *
            generalize wcode y = c7 at *
            simp (disch := omega)
            refine likeInts_does v5 v6 S5 S5 _ _ r5 r6 (by omega) (by omega) ?_
            rw [beq_self_eq_true]
            simp (disch := omega)
            refine rows5_does v7 v8 P7 P7 _ _ r7 r8 (by omega) (by omega) (fun r hr => by rw [prw r hr]; omega) (fun r hr => by rw [prw r hr]; omega) ?_
            rw [beq_self_eq_true]
            simp (disch := omega)
            exact ret_of (h _ sF)
      · have hw0I : ¬ (0 : Int) < w.length := by omega
        simp (disch := omega) [tup2, hw0, hw0I, undef]
        refine loop_to tab_ok [2, 27, 28, 29, 224, 225, 226, 227, 228, 229, 230, 231, 232, 233, 234, 235, 236, 237, 238, 239, 240, 241, 242, 243, 244, 245, 246, 247, 248, 249, 250, 251, 252, 253, 254, 255, 256, 257, 258, 259, 260, 261, 262, 263, 264, 265, 266, 267, 268] (fun i : Nat => [(27, .int .i64 i)]) (fun i N => M14 = N ∧ i ≤ Q.length) (fun i => Q.length - i) 0 (by kernel_rfl) (by simp (disch := omega)) ⟨rfl, Nat.zero_le _⟩ ?_
        rintro i N g ⟨rfl, hi⟩
        by_cases hlt : i < Q.length
        · rcases ha7 with h0 | ⟨b7, o7, rfl, ha7⟩
          · omega
          have hg7 := ha7 i hlt
          rw [ints_get, List.getElem?_eq_getElem hlt, Option.map_some] at hg7
          obtain ⟨q, hzq, k1, k2, k3⟩ := hpp _ (List.getElem_mem hlt)
          have hPz := hasP_of (hpr q k3 k1 k2)
          rw [hzq] at hg7
          simp (disch := omega)
          refine loop_to tab_ok [28, 29, 230, 231, 232, 233, 234, 235, 236, 237, 238, 239, 240, 241, 242, 243, 244, 245, 246, 247, 248, 249, 250, 251, 252, 253, 254, 255, 256, 257, 258, 259, 260, 261, 262, 263, 264, 265, 266] (fun k : Nat => [(29, .int .i64 k), (28, .bool (hasP (P.take k) q))]) (fun k N => M14 = N ∧ k ≤ P.length) (fun k => P.length - k) 0 (by kernel_rfl) (by simp (disch := omega) [hasP_nil]) ⟨rfl, Nat.zero_le _⟩ ?_
          rintro k N g2 ⟨rfl, hk⟩
          by_cases hkl : k < P.length
          · rcases hb3 with h0 | ⟨b3, o3, rfl, hb3⟩
            · omega
            obtain ⟨x3, hx3, rx3⟩ := row3 k _ (List.getElem?_eq_getElem hkl)
            have hg3 := hb3 k hkl
            rw [hx3] at hg3
            have hst : hasP (P.take (k + 1)) q = (hasP (P.take k) q || (P[k] == [0, (q : Int)])) := by rw [take_snoc P hkl, hasP_snoc]
            have hr2 := prw _ (List.getElem_mem hkl)
            generalize hasP (P.take k) q = f1 at *
            generalize P[k] = r at *
            rcases r with _ | ⟨r0, _ | ⟨r1, _ | ⟨r2, rr⟩⟩⟩
            · simp at hr2
            · simp at hr2
            · have rx3 := rx3.sub sX
              obtain ⟨ax, cx, rfl, hax⟩ := rx3.opened
              rw [ints_length] at hax hg3
              have hl2 : [r0, r1].length = 2 := rfl
              rw [hl2] at hax hg3
              rcases hax with h0 | ⟨bx, ox, rfl, hax⟩
              · omega
              have hx0 := hax 0 (by omega)
              have hx1 := hax 1 (by omega)
              have e0 : (ints [r0, r1])[0]? = some (.int .i64 r0) := rfl
              have e1 : (ints [r0, r1])[1]? = some (.int .i64 r1) := rfl
              rw [e0, Nat.add_zero] at hx0
              rw [e1] at hx1
              have hkI : (k : Int) < (P.length : Nat) := by omega
              simp (disch := omega) [hkI]
              refine draw_to tab_ok (by kernel_rfl) (by kernel_rfl) (by rfl) ?_
              cases f1
              · by_cases hr0 : r0 = 0
                · by_cases hr1 : r1 = q
                  · have hf2 : hasP (P.take (k + 1)) q = true := by rw [hst, hr0, hr1]; simp
                    simp (disch := omega) [hg3, hx0, hx1, hg7, hr0, hr1]
                    exact Rnd.mk' (k + 1) (by omega) (by (repeat (first | exact km | refine kp rfl ?_ | refine km' rfl ?_))) (by simp (disch := omega) [hf2]) ⟨rfl, by omega⟩
                  · have hf2 : hasP (P.take (k + 1)) q = false := by rw [hst, hr0]; simp [hr1]
                    have hr1b : (r1 == (q : Int)) = false := beq_eq_false_iff_ne.2 hr1
                    simp (disch := omega) [hg3, hx0, hx1, hg7, hr0, hr1, hr1b]
                    exact Rnd.mk' (k + 1) (by omega) (by (repeat (first | exact km | refine kp rfl ?_ | refine km' rfl ?_))) (by simp (disch := omega) [hf2]) ⟨rfl, by omega⟩
                · have hf2 : hasP (P.take (k + 1)) q = false := by rw [hst]; simp [hr0]
                  have hr0b : (r0 == 0) = false := beq_eq_false_iff_ne.2 hr0
                  simp (disch := omega) [hg3, hx0, hx1, hg7, hr0, hr0b]
                  exact Rnd.mk' (k + 1) (by omega) (by (repeat (first | exact km | refine kp rfl ?_ | refine km' rfl ?_))) (by simp (disch := omega) [hf2]) ⟨rfl, by omega⟩
              · have hf2 : hasP (P.take (k + 1)) q = true := by rw [hst]; rfl
                simp (disch := omega) [hg3, hx0, hx1, hg7, undef]
                exact Rnd.mk' (k + 1) (by omega) (by (repeat (first | exact km | refine kp rfl ?_ | refine km' rfl ?_))) (by simp (disch := omega) [hf2]) ⟨rfl, by omega⟩
            · simp at hr2
          · have hkE : k = P.length := by omega
            subst hkE
            rw [List.take_length, hPz]
            simp (disch := omega)
            exact Rnd.mk' (i + 1) (by omega) (by (repeat (first | exact km | refine kp rfl ?_ | refine km' rfl ?_))) (by simp (disch := omega)) ⟨rfl, by omega⟩
        · have hltI : ¬ (i : Int) < (Q.length : Nat) := by omega
          clear hb3 ha3 ha7 row3 rd3 r7 hpp hpr
          simp (disch := omega) [hltI]
          refine drawFAF_does v xs _ _ (hv.sub sF) (by omega) ?_
          intro m j k N9 t9 hm
          unfold NearOk at hm
          have sF := sF.trans t9
          simp (disch := omega)
          refine impl_FirstAbelianFree m j k _ _ ?_
          simp (disch := omega) [tup2]
          refine spec_FirstAbelianFree m j k _ _ ?_
          by_cases hf0 : firstAC m j k = 0
          · obtain ⟨f1, f2, f3⟩ := first_pow hf0
            generalize firstAT m j k = u at *
            have hu : u.length ≤ 1099511627776 := by omega
            rw [hf0]
            simp (disch := omega) [tup2]
            refine impl_IsAbelianFree u k _ _ hu ?_
            rw [f1, f2]
            simp (disch := omega) [tup2, f3]
            refine drawSuO_does v xs _ _ (hv.sub sF) (by omega) ?_
            intro x n N1 t1 hx hn
            unfold NearOk at hn
            have sF := sF.trans t1
            simp (disch := omega)
            refine impl_SumsOf x n _ _ (by omega) ?_
            intro v5 N2 o5
            have r5 := o5.rd
            have sF := sF.trans o5.sub
            simp (disch := omega)
            refine spec_SumsOf x n _ _ (by omega) ?_
            intro v6 N3 o6
            have r5 := r5.sub o6.sub
            have r6 := o6.rd
            have sF := sF.trans o6.sub
            clear o5 o6
            simp (disch := omega)
            refine drawAPe_does v xs _ _ (hv.sub sF) (by omega) ?_
            intro y N4 t4 hy
            have r5 := r5.sub t4
            have r6 := r6.sub t4
            have sF := sF.trans t4
            simp (disch := omega)
            refine impl_AbelianPeriods y _ _ (by omega) ?_
            intro v7 rs7 N5 N6 ro7 o7
            have t7 := ro7.sub.trans o7.sub
            have r7 := rdSS_of ro7 o7
            have r5 := r5.sub t7
            have r6 := r6.sub t7
            have sF := sF.trans t7
            simp (disch := omega)
            refine spec_AbelianPeriods y _ _ (by omega) ?_
            intro v8 rs8 N7 N8 ro8 o8
            have t8 := ro8.sub.trans o8.sub
            have r8 := rdSS_of ro8 o8
            have r5 := r5.sub t8
            have r6 := r6.sub t8
            have r7 := r7.sub t8
            have sF := sF.trans t8
            have pl := perR_len y
            have prw := perR_row (w := y)
            have sl := sumsR_len x n
            generalize sumsR x n = S5 at *
            generalize sumsC x n = c5 at *
            generalize perR y = P7 at *
            generalize wcode y = c7 at *
            simp (disch := omega)
            refine likeInts_does v5 v6 S5 S5 _ _ r5 r6 (by omega) (by omega) ?_
            rw [beq_self_eq_true]
            simp (disch := omega)
            refine rows5_does v7 v8 P7 P7 _ _ r7 r8 (by omega) (by omega) (fun r hr => by rw [prw r hr]; omega) (fun r hr => by rw [prw r hr]; omega) ?_
            rw [beq_self_eq_true]
            simp (disch := omega)
            exact ret_of (h _ sF)
          · have hf0b : (firstAC m j k == 0) = false := beq_eq_false_iff_ne.2 hf0
            generalize firstAC m j k = c1 at *
            generalize firstAT m j k = u at *
            simp (disch := omega) [tup2, hf0b, hf0]
            refine drawSuO_does v xs _ _ (hv.sub sF) (by omega) ?_
            intro x n N1 t1 hx hn
            unfold NearOk at hn
            have sF := sF.trans t1
            simp (disch := omega)
            refine impl_SumsOf x n _ _ (by omega) ?_
            intro v5 N2 o5
            have r5 := o5.rd
            have sF := sF.trans o5.sub
            simp (disch := omega)
            refine spec_SumsOf x n _ _ (by omega) ?_
            intro v6 N3 o6
            have r5 := r5.sub o6.sub
            have r6 := o6.rd
            have sF := sF.trans o6.sub
            clear o5 o6
            simp (disch := omega)
            refine drawAPe_does v xs _ _ (hv.sub sF) (by omega) ?_
            intro y N4 t4 hy
            have r5 := r5.sub t4
            have r6 := r6.sub t4
            have sF := sF.trans t4
            simp (disch := omega)
            refine impl_AbelianPeriods y _ _ (by omega) ?_
            intro v7 rs7 N5 N6 ro7 o7
            have t7 := ro7.sub.trans o7.sub
            have r7 := rdSS_of ro7 o7
            have r5 := r5.sub t7
            have r6 := r6.sub t7
            have sF := sF.trans t7
            simp (disch := omega)
            refine spec_AbelianPeriods y _ _ (by omega) ?_
            intro v8 rs8 N7 N8 ro8 o8
            have t8 := ro8.sub.trans o8.sub
            have r8 := rdSS_of ro8 o8
            have r5 := r5.sub t8
            have r6 := r6.sub t8
            have r7 := r7.sub t8
            have sF := sF.trans t8
            have pl := perR_len y
            have prw := perR_row (w := y)
            have sl := sumsR_len x n
            generalize sumsR x n = S5 at *
            generalize sumsC x n = c5 at *
            generalize perR y = P7 at *
            generalize wcode y = c7 at *
            simp (disch := omega)
            refine likeInts_does v5 v6 S5 S5 _ _ r5 r6 (by omega) (by omega) ?_
            rw [beq_self_eq_true]
            simp (disch := omega)
            refine rows5_does v7 v8 P7 P7 _ _ r7 r8 (by omega) (by omega) (fun r hr => by rw [prw r hr]; omega) (fun r hr => by rw [prw r hr]; omega) ?_
            rw [beq_self_eq_true]
            simp (disch := omega)
            exact ret_of (h _ sF)
end Go.Proofs.YthpcojnpiggaiaaGreat

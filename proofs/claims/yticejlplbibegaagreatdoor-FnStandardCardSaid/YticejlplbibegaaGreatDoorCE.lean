/- Merged: C91 C92 C95. -/
import Derived.Test.YticejlplbibegaaGreatDoorCD
import Derived.Test.YticejlplbibegaaGreatDoorC44
/-! Contracts: words of slopes by two numbers, central words, paths, stepped words; palindromes and Lyndon words. -/
namespace Go.Proofs.YticejlplbibegaaGreatDoor
open Go Go.RowKit
set_option linter.unusedSimpArgs false
set_option linter.unusedVariables false

theorem slopeOk_is {p q low : Int} (h0 : 0 ≤ low) (h : slopeOk p q low = true) : ∃ a b : Nat, p = a ∧ q = b ∧ low ≤ p ∧ low ≤ q ∧ a ≤ 1000 ∧ b ≤ 1000 ∧ Nat.gcd a b = 1 := by
  unfold slopeOk at h
  simp only [Bool.and_eq_true, decide_eq_true_eq] at h
  obtain ⟨⟨h1, h2⟩, ⟨h3, h4⟩, h5⟩ := h
  exact ⟨p.toNat, q.toNat, by omega, by omega, h1, h3, by omega, by omega, h5⟩
theorem l08Pair_does (p q low : Int) (M : Mem) (R : Value → Mem → Prop) (hle : 0 ≤ low) (h : R (.int .i64 (if slopeOk p q low = true then 0 else 2)) M) : Does Tryz.prog 89 [.int .i64 p, .int .i64 q, .int .i64 low] M R := by
  unfold slopeOk at h
  refine does_fn tab_ok Tryz.func89 rfl (by kernel_rfl) (by kernel_rfl) Tryz.ntmps89 Tryz.results89 rfl ?_
  simp (disch := omega)
  refine l01In_does _ _ _ _ _ ?_
  by_cases h1 : low ≤ p ∧ p ≤ 1000
  · rw [decide_eq_true h1] at h ⊢
    simp (disch := omega)
    refine l01In_does _ _ _ _ _ ?_
    by_cases h2 : low ≤ q ∧ q ≤ 1000
    · rw [decide_eq_true h2] at h ⊢
      obtain ⟨a, rfl⟩ : ∃ a : Nat, p = a := ⟨p.toNat, by omega⟩
      obtain ⟨b, rfl⟩ : ∃ b : Nat, q = b := ⟨q.toNat, by omega⟩
      rw [Int.toNat_natCast, Int.toNat_natCast] at h
      simp (disch := omega)
      refine l02Gcd_does a b _ _ (by omega) (by omega) ?_
      by_cases h3 : Nat.gcd a b = 1
      · rw [decide_eq_true h3] at h
        simp only [Bool.and_self, if_true] at h
        rw [h3]
        simp (disch := omega)
        exact ret_of h
      · rw [decide_eq_false h3] at h
        simp only [Bool.and_false, Bool.false_eq_true, if_false] at h
        have h4 : ¬ ((Nat.gcd a b : Nat) : Int) = 1 := by omega
        have h5 : (((Nat.gcd a b : Nat) : Int) == 1) = false := beq_eq_false_iff_ne.2 h4
        generalize Nat.gcd a b = G at *
        simp (disch := omega) [h4, h5]
        exact ret_of h
    · rw [decide_eq_false h2] at h ⊢
      simp only [Bool.and_false, Bool.false_and, Bool.false_eq_true, if_false] at h
      simp (disch := omega)
      exact ret_of h
  · rw [decide_eq_false h1] at h ⊢
    simp only [Bool.and_false, Bool.false_and, Bool.false_eq_true, if_false] at h
    simp (disch := omega)
    exact ret_of h
def wosC (p q : Int) : Int := if slopeOk p q 0 = true then (if 60 < p + q then 3 else 0) else 2
def wosW (p q : Int) : List UInt8 := if wosC p q = 0 then slopeL p.toNat q.toNat else []
theorem wosC_ok {p q : Int} (h : wosC p q = 0) : slopeOk p q 0 = true ∧ p + q ≤ 60 := by
  unfold wosC at h
  split at h
  · rename_i h1
    split at h
    · cases h
    · exact ⟨h1, by omega⟩
  · cases h
theorem slopeCode_does (p q : Int) (M : Mem) (R : Value → Mem → Prop) (h : R (.int .i64 (wosC p q)) M) : Does Tryz.prog 87 [.int .i64 p, .int .i64 q] M R := by
  unfold wosC at h
  refine does_fn tab_ok Tryz.func87 rfl (by kernel_rfl) (by kernel_rfl) Tryz.ntmps87 Tryz.results87 rfl ?_
  simp (disch := omega)
  refine areSlope_does p q 0 _ _ (by omega) ?_
  cases h1 : slopeOk p q 0
  · rw [h1] at h
    simp only [Bool.false_eq_true, if_false] at h
    simp (disch := omega)
    exact ret_of h
  · rw [h1] at h
    simp only [if_true] at h
    obtain ⟨a, b, rfl, rfl, _, _, ha, hb, _⟩ := slopeOk_is (by omega) h1
    by_cases h2 : (60 : Int) < a + b
    · rw [if_pos h2] at h
      simp (disch := omega) [h2]
      exact ret_of h
    · rw [if_neg h2] at h
      simp (disch := omega) [h2]
      exact ret_of h
theorem impl_WordOfSlope (p q : Int) (M : Mem) (R : Value → Mem → Prop) (h : R (tup2 (str (wosW p q)) (wosC p q)) M) : Does Tryz.prog 27 [.int .i64 p, .int .i64 q] M R := by
  unfold wosW tup2 at h
  refine does_fn tab_ok Tryz.func27 rfl (by kernel_rfl) (by kernel_rfl) Tryz.ntmps27 Tryz.results27 rfl ?_
  simp (disch := omega)
  refine slopeCode_does p q _ _ ?_
  by_cases h1 : wosC p q = 0
  · rw [if_pos h1] at h
    obtain ⟨h2, h3⟩ := wosC_ok h1
    obtain ⟨a, b, rfl, rfl, _, _, ha, hb, hg⟩ := slopeOk_is (by omega) h2
    rw [h1] at h ⊢
    rw [Int.toNat_natCast, Int.toNat_natCast] at h
    simp (disch := omega)
    refine slopeWord_does a b _ _ ha hb (pos_of_gcd hg) ?_
    simp (disch := omega)
    exact ret_of h
  · rw [if_neg h1] at h
    simp (disch := omega) [h1]
    exact ret_of h
theorem spec_WordOfSlope (p q : Int) (M : Mem) (R : Value → Mem → Prop) (h : R (tup2 (str (wosW p q)) (wosC p q)) M) : Does Tryz.prog 28 [.int .i64 p, .int .i64 q] M R := by
  unfold wosW tup2 wosC at h
  refine does_fn tab_ok Tryz.func28 rfl (by kernel_rfl) (by kernel_rfl) Tryz.ntmps28 Tryz.results28 rfl ?_
  simp (disch := omega)
  refine l08Pair_does p q 0 _ _ (by omega) ?_
  cases h1 : slopeOk p q 0
  · rw [h1] at h
    simp only [Bool.false_eq_true, if_false] at h ⊢
    simp (disch := omega)
    exact ret_of (by simpa using h)
  · rw [h1] at h
    simp only [if_true] at h ⊢
    obtain ⟨a, b, rfl, rfl, _, _, ha, hb, hg⟩ := slopeOk_is (by omega) h1
    by_cases h2 : (60 : Int) < a + b
    · rw [if_pos h2, if_neg (by decide)] at h
      simp (disch := omega) [h2]
      exact ret_of h
    · rw [if_neg h2, if_pos rfl, Int.toNat_natCast, Int.toNat_natCast] at h
      simp (disch := omega) [h2]
      refine l08Word_does a b _ _ ha hb ?_
      simp (disch := omega)
      exact ret_of h
def cenC (p q : Int) : Int := if slopeOk p q 1 = true then (if 60 < p + q - 2 then 3 else 0) else 2
def cenW (p q : Int) : List UInt8 := if cenC p q = 0 then ((slopeL p.toNat q.toNat).take (p.toNat + q.toNat - 1)).tail else []
theorem cenC_ok {p q : Int} (h : cenC p q = 0) : slopeOk p q 1 = true ∧ p + q - 2 ≤ 60 := by
  unfold cenC at h
  split at h
  · rename_i h1
    split at h
    · cases h
    · exact ⟨h1, by omega⟩
  · cases h
theorem impl_CentralWord (p q : Int) (M : Mem) (R : Value → Mem → Prop) (h : R (tup2 (str (cenW p q)) (cenC p q)) M) : Does Tryz.prog 35 [.int .i64 p, .int .i64 q] M R := by
  unfold cenW tup2 cenC at h
  refine does_fn tab_ok Tryz.func35 rfl (by kernel_rfl) (by kernel_rfl) Tryz.ntmps35 Tryz.results35 rfl ?_
  simp (disch := omega)
  refine areSlope_does p q 1 _ _ (by omega) ?_
  cases h1 : slopeOk p q 1
  · rw [h1] at h
    simp only [Bool.false_eq_true, if_false] at h ⊢
    simp (disch := omega)
    exact ret_of (by simpa using h)
  · rw [h1] at h
    simp only [if_true] at h ⊢
    obtain ⟨a, b, rfl, rfl, h3, h4, ha, hb, hg⟩ := slopeOk_is (by omega) h1
    have hln : (slopeL a b).length = a + b := stepL_len _ _ _ _
    by_cases h2 : (60 : Int) < (a : Int) + b - 2
    · rw [if_pos h2, if_neg (by decide)] at h
      simp (disch := omega) [h2]
      exact ret_of h
    · rw [if_neg h2, if_pos rfl, Int.toNat_natCast, Int.toNat_natCast] at h
      simp (disch := omega) [h2]
      refine slopeWord_does a b _ _ ha hb (pos_of_gcd hg) ?_
      obtain ⟨n, hn⟩ : ∃ n, n = a + b := ⟨_, rfl⟩
      have e1 : ((a : Int) + b) - 1 = ((n - 1 : Nat) : Int) := by omega
      have e2 : ((n : Nat) : Int) - 1 = ((n - 1 : Nat) : Int) := by omega
      rw [← hn] at h hln
      generalize slopeL a b = l at *
      obtain ⟨m, hm⟩ : ∃ m, m = n - 1 := ⟨_, rfl⟩
      rw [← hm] at h e1 e2
      simp (disch := omega) [hln, e1, e2]
      exact ret_of h
theorem spec_CentralWord (p q : Int) (M : Mem) (R : Value → Mem → Prop) (h : R (tup2 (str (cenW p q)) (cenC p q)) M) : Does Tryz.prog 36 [.int .i64 p, .int .i64 q] M R := by
  unfold cenW tup2 cenC at h
  refine does_fn tab_ok Tryz.func36 rfl (by kernel_rfl) (by kernel_rfl) Tryz.ntmps36 Tryz.results36 rfl ?_
  simp (disch := omega)
  refine l08Pair_does p q 1 _ _ (by omega) ?_
  cases h1 : slopeOk p q 1
  · rw [h1] at h
    simp only [Bool.false_eq_true, if_false] at h ⊢
    simp (disch := omega)
    exact ret_of (by simpa using h)
  · rw [h1] at h
    simp only [if_true] at h ⊢
    obtain ⟨a, b, rfl, rfl, h3, h4, ha, hb, hg⟩ := slopeOk_is (by omega) h1
    have hln : (slopeL a b).length = a + b := stepL_len _ _ _ _
    by_cases h2 : (60 : Int) < (a : Int) + b - 2
    · rw [if_pos h2, if_neg (by decide)] at h
      simp (disch := omega) [h2]
      exact ret_of h
    · rw [if_neg h2, if_pos rfl, Int.toNat_natCast, Int.toNat_natCast] at h
      simp (disch := omega) [h2]
      refine l08Word_does a b _ _ ha hb ?_
      obtain ⟨n, hn⟩ : ∃ n, n = a + b := ⟨_, rfl⟩
      have e1 : ((a : Int) + b) - 1 = ((n - 1 : Nat) : Int) := by omega
      have e2 : ((n : Nat) : Int) - 1 = ((n - 1 : Nat) : Int) := by omega
      rw [← hn] at h hln
      generalize slopeL a b = l at *
      obtain ⟨m, hm⟩ : ∃ m, m = n - 1 := ⟨_, rfl⟩
      rw [← hm] at h e1 e2
      simp (disch := omega) [hln, e1, e2]
      exact ret_of h
/-- The path from two numbers (with fuel). -/
def pthF : Nat → Nat → Nat → List UInt8
  | 0, _, _ => []
  | f + 1, p, q => if p = q then [] else if q < p then 98 :: pthF f (p - q) q else 97 :: pthF f p (q - p)
def pth (p q : Nat) : List UInt8 := pthF (p + q) p q
def pthC (p q : Int) : Int := if slopeOk p q 1 = true then (if (pth p.toNat q.toNat).length ≤ 60 then 0 else 3) else 2
def pthW (p q : Int) : List UInt8 := if pthC p q = 0 then pth p.toNat q.toNat else []
theorem impl_PathOf (p q : Int) (M : Mem) (R : Value → Mem → Prop) (h : R (tup2 (str (pthW p q)) (pthC p q)) M) : Does Tryz.prog 37 [.int .i64 p, .int .i64 q] M R := by
  unfold pthW tup2 pthC at h
  refine does_fn tab_ok Tryz.func37 rfl (by kernel_rfl) (by kernel_rfl) Tryz.ntmps37 Tryz.results37 rfl ?_
  simp (disch := omega)
  refine areSlope_does p q 1 _ _ (by omega) ?_
  cases h1 : slopeOk p q 1
  · rw [h1] at h
    simp only [Bool.false_eq_true, if_false] at h ⊢
    simp (disch := omega)
    exact ret_of (by simpa using h)
  · rw [h1] at h
    simp only [if_true] at h ⊢
    obtain ⟨a, b, rfl, rfl, h3, h4, ha, hb, hg⟩ := slopeOk_is (by omega) h1
    rw [Int.toNat_natCast, Int.toNat_natCast] at h
    simp (disch := omega)
    refine loop_to tab_ok [0, 1, 4, 5, 6, 11, 12, 13, 14, 15, 16, 17, 18, 19, 20, 21, 22, 23, 24, 25, 26, 27, 28, 29] (fun x : List UInt8 × Nat × Nat × Nat => [(0, .int .i64 (x.2.1 : Nat)), (1, .int .i64 (x.2.2.1 : Nat)), (6, str x.1)]) (fun x M' => M = M' ∧ x.1 ++ pthF x.2.2.2 x.2.1 x.2.2.1 = pth a b ∧ x.2.1 + x.2.2.1 ≤ x.2.2.2 ∧ 1 ≤ x.2.1 ∧ 1 ≤ x.2.2.1 ∧ x.2.1 ≤ 1000 ∧ x.2.2.1 ≤ 1000 ∧ x.1.length ≤ 60) (fun x => x.2.2.2) ([], a, b, a + b) (by kernel_rfl) (by simp (disch := omega)) ⟨rfl, rfl, Nat.le_refl _, by simp only; omega, by simp only; omega, ha, hb, Nat.zero_le _⟩ ?_
    rintro ⟨out, x, y, f⟩ M' g ⟨rfl, hP, hf, hx, hy, hx2, hy2, ho⟩
    simp only at hP hf hx hy hx2 hy2 ho
    obtain ⟨f, rfl⟩ : ∃ f', f = f' + 1 := ⟨f - 1, by omega⟩
    by_cases hxy : x = y
    · have hxI : (x : Int) = y := by omega
      rw [pthF, if_pos hxy, List.append_nil] at hP
      rw [← hP, if_pos ho, if_pos rfl] at h
      simp (disch := omega) [hxI]
      exact ret_of h
    · have hxI : ¬ (x : Int) = y := by omega
      rw [pthF, if_neg hxy] at hP
      by_cases h60 : out.length = 60
      · have h60' : (out.length : Int) = 60 := by omega
        have hbig : ¬ (pth a b).length ≤ 60 := by
          rw [← hP, List.length_append]
          split
          · rw [List.length_cons]; omega
          · rw [List.length_cons]; omega
        rw [if_neg hbig, if_neg (by decide)] at h
        simp (disch := omega) [hxI, h60, h60']
        exact ret_of h
      · have h60' : ¬ (out.length : Int) = 60 := by omega
        by_cases hlt : y < x
        · rw [if_pos hlt] at hP
          have hl2 : ¬ (x : Int) < y := by omega
          have hl3 : ¬ x < y := by omega
          obtain ⟨d, hd⟩ : ∃ d, x - y = d := ⟨_, rfl⟩
          have hdI : (x : Int) - y = d := by omega
          rw [hd] at hP
          simp (disch := omega) [hxI, h60, h60', hl2, hl3, hdI]
          refine Rnd.mk' (out ++ [98], d, y, f) (by simp only; omega) (by (repeat (first | exact km | refine kp rfl ?_ | refine km' rfl ?_))) (by simp (disch := omega)) ⟨rfl, by simpa using hP, by simp only; omega, by simp only; omega, hy, by simp only; omega, hy2, by simp only [List.length_append, List.length_singleton]; omega⟩
        · rw [if_neg hlt] at hP
          have hl2 : (x : Int) < y := by omega
          have hl3 : x < y := by omega
          obtain ⟨d, hd⟩ : ∃ d, y - x = d := ⟨_, rfl⟩
          have hdI : (y : Int) - x = d := by omega
          rw [hd] at hP
          simp (disch := omega) [hxI, h60, h60', hl2, hl3, hdI]
          refine Rnd.mk' (out ++ [97], x, d, f) (by simp only; omega) (by (repeat (first | exact km | refine kp rfl ?_ | refine km' rfl ?_))) (by simp (disch := omega)) ⟨rfl, by simpa using hP, by simp only; omega, hx, by simp only; omega, hx2, by simp only; omega, by simp only [List.length_append, List.length_singleton]; omega⟩
theorem spec_PathOf (p q : Int) (M : Mem) (R : Value → Mem → Prop) (h : R (tup2 (str (pthW p q)) (pthC p q)) M) : Does Tryz.prog 38 [.int .i64 p, .int .i64 q] M R := by
  unfold pthW tup2 pthC at h
  refine does_fn tab_ok Tryz.func38 rfl (by kernel_rfl) (by kernel_rfl) Tryz.ntmps38 Tryz.results38 rfl ?_
  simp (disch := omega)
  refine l08Pair_does p q 1 _ _ (by omega) ?_
  cases h1 : slopeOk p q 1
  · rw [h1] at h
    simp only [Bool.false_eq_true, if_false] at h ⊢
    simp (disch := omega)
    exact ret_of (by simpa using h)
  · rw [h1] at h
    simp only [if_true] at h ⊢
    obtain ⟨a, b, rfl, rfl, h3, h4, ha, hb, hg⟩ := slopeOk_is (by omega) h1
    rw [Int.toNat_natCast, Int.toNat_natCast] at h
    simp (disch := omega)
    refine loop_to tab_ok [0, 1, 4, 5, 7, 14, 15, 16, 17, 18, 19, 20, 21, 22, 23, 24, 25, 26, 27, 28, 29, 30, 31, 32] (fun x : List UInt8 × Nat × Nat × Nat => [(0, .int .i64 (x.2.1 : Nat)), (1, .int .i64 (x.2.2.1 : Nat)), (7, str x.1)]) (fun x M' => M = M' ∧ x.1 ++ pthF x.2.2.2 x.2.1 x.2.2.1 = pth a b ∧ x.2.1 + x.2.2.1 ≤ x.2.2.2 ∧ 1 ≤ x.2.1 ∧ 1 ≤ x.2.2.1 ∧ x.2.1 ≤ 1000 ∧ x.2.2.1 ≤ 1000 ∧ x.1.length ≤ 60) (fun x => x.2.2.2) ([], a, b, a + b) (by kernel_rfl) (by simp (disch := omega)) ⟨rfl, rfl, Nat.le_refl _, by simp only; omega, by simp only; omega, ha, hb, Nat.zero_le _⟩ ?_
    rintro ⟨out, x, y, f⟩ M' g ⟨rfl, hP, hf, hx, hy, hx2, hy2, ho⟩
    simp only at hP hf hx hy hx2 hy2 ho
    obtain ⟨f, rfl⟩ : ∃ f', f = f' + 1 := ⟨f - 1, by omega⟩
    by_cases hxy : x = y
    · have hxI : (x : Int) = y := by omega
      rw [pthF, if_pos hxy, List.append_nil] at hP
      rw [← hP, if_pos ho, if_pos rfl] at h
      simp (disch := omega) [hxI]
      exact ret_of h
    · have hxI : ¬ (x : Int) = y := by omega
      rw [pthF, if_neg hxy] at hP
      by_cases hlt : y < x
      · rw [if_pos hlt] at hP
        have hl2 : (y : Int) < x := by omega
        obtain ⟨d, hd⟩ : ∃ d, x - y = d := ⟨_, rfl⟩
        have hdI : (x : Int) - y = d := by omega
        rw [hd] at hP
        by_cases h60 : out.length = 60
        · have hbig : ¬ (pth a b).length ≤ 60 := by
            rw [← hP, List.length_append, List.length_cons]; omega
          rw [if_neg hbig, if_neg (by decide)] at h
          simp (disch := omega) [hxI, h60, hl2, hlt, hdI]
          exact ret_of h
        · have h61 : ¬ 60 < out.length + 1 := by omega
          have h61' : ¬ (60 : Int) < (out.length : Int) + 1 := by omega
          simp (disch := omega) [hxI, h61, h61', hl2, hlt, hdI]
          refine Rnd.mk' (out ++ [98], d, y, f) (by simp only; omega) (by (repeat (first | exact km | refine kp rfl ?_ | refine km' rfl ?_))) (by simp (disch := omega)) ⟨rfl, by simpa using hP, by simp only; omega, by simp only; omega, hy, by simp only; omega, hy2, by simp only [List.length_append, List.length_singleton]; omega⟩
      · rw [if_neg hlt] at hP
        have hl2 : ¬ (y : Int) < x := by omega
        obtain ⟨d, hd⟩ : ∃ d, y - x = d := ⟨_, rfl⟩
        have hdI : (y : Int) - x = d := by omega
        rw [hd] at hP
        by_cases h60 : out.length = 60
        · have hbig : ¬ (pth a b).length ≤ 60 := by
            rw [← hP, List.length_append, List.length_cons]; omega
          rw [if_neg hbig, if_neg (by decide)] at h
          simp (disch := omega) [hxI, h60, hl2, hlt, hdI]
          exact ret_of h
        · have h61 : ¬ 60 < out.length + 1 := by omega
          have h61' : ¬ (60 : Int) < (out.length : Int) + 1 := by omega
          simp (disch := omega) [hxI, h61, h61', hl2, hlt, hdI]
          refine Rnd.mk' (out ++ [97], x, d, f) (by simp only; omega) (by (repeat (first | exact km | refine kp rfl ?_ | refine km' rfl ?_))) (by simp (disch := omega)) ⟨rfl, by simpa using hP, by simp only; omega, hx, by simp only; omega, hx2, by simp only; omega, by simp only [List.length_append, List.length_singleton]; omega⟩
def stpOk (a b c n : Int) : Bool := decide (1 ≤ b ∧ b ≤ 1000) && (decide (0 ≤ a ∧ a ≤ b) && (decide (0 ≤ c ∧ c ≤ b - 1) && decide (0 ≤ n ∧ n ≤ 60)))
def stpC (a b c n : Int) : Int := if stpOk a b c n = true then 0 else 2
def stpW (a b c n : Int) : List UInt8 := if stpOk a b c n = true then stepL a.toNat b.toNat c.toNat n.toNat else []
theorem stpW_len (a b c n : Int) : (stpW a b c n).length ≤ 60 := by
  unfold stpW
  split
  · rename_i h
    unfold stpOk at h
    simp only [Bool.and_eq_true, decide_eq_true_eq] at h
    rw [stepL_len]; omega
  · exact Nat.zero_le _
theorem impl_SteppedWord (a b c n : Int) (M : Mem) (R : Value → Mem → Prop) (ha : -9223372036854775808 ≤ b ∧ b ≤ 9223372036854775807) (h : R (tup2 (str (stpW a b c n)) (stpC a b c n)) M) : Does Tryz.prog 50 [.int .i64 a, .int .i64 b, .int .i64 c, .int .i64 n] M R := by
  unfold stpW stpC tup2 stpOk at h
  refine does_fn tab_ok Tryz.func50 rfl (by kernel_rfl) (by kernel_rfl) Tryz.ntmps50 Tryz.results50 rfl ?_
  simp (disch := omega)
  refine within_does _ _ _ _ _ ?_
  by_cases h1 : 1 ≤ b ∧ b ≤ 1000
  · rw [decide_eq_true h1] at h ⊢
    simp (disch := omega)
    refine within_does _ _ _ _ _ ?_
    by_cases h2 : 0 ≤ a ∧ a ≤ b
    · rw [decide_eq_true h2] at h ⊢
      simp (disch := omega)
      refine within_does _ _ _ _ _ ?_
      by_cases h3 : 0 ≤ c ∧ c ≤ b - 1
      · rw [decide_eq_true h3] at h ⊢
        simp (disch := omega)
        refine isLength_does _ _ _ ?_
        by_cases h4 : 0 ≤ n ∧ n ≤ 60
        · rw [decide_eq_true h4] at h ⊢
          simp only [Bool.and_self, if_true] at h
          obtain ⟨a, rfl⟩ : ∃ a' : Nat, a = a' := ⟨a.toNat, by omega⟩
          obtain ⟨b, rfl⟩ : ∃ b' : Nat, b = b' := ⟨b.toNat, by omega⟩
          obtain ⟨c, rfl⟩ : ∃ c' : Nat, c = c' := ⟨c.toNat, by omega⟩
          obtain ⟨n, rfl⟩ : ∃ n' : Nat, n = n' := ⟨n.toNat, by omega⟩
          simp only [Int.toNat_natCast] at h
          simp (disch := omega)
          first
          | refine stepped_does a b c n _ _ (by omega) (by omega) (by omega) (by omega) (by omega) ?_
            simp (disch := omega)
            exact ret_of h
          | (refine loop_to tab_ok [10, 11, 33, 34, 35, 36, 37, 38, 39, 40, 41, 42, 43, 44, 45, 46, 47, 48, 49, 50, 51, 52, 53, 54, 55, 56, 57] (fun i : Nat => [(11, .int .i64 i), (10, str (stepL a b c i))]) (fun i M' => M = M' ∧ i ≤ n) (fun i => n - i) 0 (by kernel_rfl) (by simp (disch := omega) [stepL]) ⟨rfl, by omega⟩ ?_
             rintro i M' g ⟨rfl, hi⟩
             have hln := stepL_len a b c i
             by_cases hlt : i < n
             · obtain ⟨s, hs⟩ : ∃ s, s = i * a := ⟨_, rfl⟩
               obtain ⟨t, ht⟩ : ∃ t, t = (i + 1) * a := ⟨_, rfl⟩
               have hsb : s ≤ 9000000 := by rw [hs]; exact Nat.le_trans (Nat.mul_le_mul (by omega : i ≤ 3000) (by omega : a ≤ 3000)) (by decide)
               have htb : t ≤ 9003000 := by rw [ht]; exact Nat.le_trans (Nat.mul_le_mul (by omega : i + 1 ≤ 3001) (by omega : a ≤ 3000)) (by decide)
               have e1 : (i : Int) * (a : Int) = s := by rw [hs]; exact (Int.natCast_mul _ _).symm
               have e2 : ((i : Int) + 1) * (a : Int) = t := by rw [ht]; push_cast; rfl
               obtain ⟨x, hx⟩ : ∃ x, x = (t + c) / b := ⟨_, rfl⟩
               obtain ⟨y, hy⟩ : ∃ y, y = (s + c) / b := ⟨_, rfl⟩
               have hxb : x ≤ t + c := by rw [hx]; exact Nat.div_le_self _ _
               have hyb : y ≤ s + c := by rw [hy]; exact Nat.div_le_self _ _
               have e3 : ((t : Int) + c).tdiv b = x := by rw [hx]; rfl
               have e4 : ((s : Int) + c).tdiv b = y := by rw [hy]; rfl
               have hb0 : ¬ (b : Int) = 0 := by omega
               have hrec : stepL a b c (i + 1) = stepL a b c i ++ [if x = y then 97 else 98] := by rw [stepL, ← ht, ← hs, ← hx, ← hy]
               simp (disch := omega)
               refine draw_to tab_ok (by kernel_rfl) (by kernel_rfl) (by rfl) ?_
               by_cases hxy : x = y
               · rw [if_pos hxy] at hrec
                 have hxy' : (x : Int) = y := by omega
                 simp (disch := omega) [e1, e2, e3, e4, hb0, hxy']
                 refine Rnd.mk' (i + 1) (by omega) (by (repeat (first | exact km | refine kp rfl ?_ | refine km' rfl ?_))) (by simp (disch := omega) [hrec]) ⟨rfl, by omega⟩
               · rw [if_neg hxy] at hrec
                 have hxy' : ¬ (x : Int) = y := by omega
                 simp (disch := omega) [e1, e2, e3, e4, hb0, hxy']
                 refine Rnd.mk' (i + 1) (by omega) (by (repeat (first | exact km | refine kp rfl ?_ | refine km' rfl ?_))) (by simp (disch := omega) [hrec]) ⟨rfl, by omega⟩
             · have hi' : i = n := by omega
               subst hi'
               simp (disch := omega)
               exact ret_of h)
        · rw [decide_eq_false h4] at h ⊢
          simp only [Bool.and_false, Bool.false_and, Bool.false_eq_true, if_false] at h
          simp (disch := omega)
          exact ret_of h
      · rw [decide_eq_false h3] at h ⊢
        simp only [Bool.and_false, Bool.false_and, Bool.false_eq_true, if_false] at h
        simp (disch := omega)
        exact ret_of h
    · rw [decide_eq_false h2] at h ⊢
      simp only [Bool.and_false, Bool.false_and, Bool.false_eq_true, if_false] at h
      simp (disch := omega)
      exact ret_of h
  · rw [decide_eq_false h1] at h ⊢
    simp only [Bool.and_false, Bool.false_and, Bool.false_eq_true, if_false] at h
    simp (disch := omega)
    exact ret_of h
theorem spec_SteppedWord (a b c n : Int) (M : Mem) (R : Value → Mem → Prop) (ha : -9223372036854775808 ≤ b ∧ b ≤ 9223372036854775807) (h : R (tup2 (str (stpW a b c n)) (stpC a b c n)) M) : Does Tryz.prog 51 [.int .i64 a, .int .i64 b, .int .i64 c, .int .i64 n] M R := by
  unfold stpW stpC tup2 stpOk at h
  refine does_fn tab_ok Tryz.func51 rfl (by kernel_rfl) (by kernel_rfl) Tryz.ntmps51 Tryz.results51 rfl ?_
  simp (disch := omega)
  refine l01In_does _ _ _ _ _ ?_
  by_cases h1 : 1 ≤ b ∧ b ≤ 1000
  · rw [decide_eq_true h1] at h ⊢
    simp (disch := omega)
    refine l01In_does _ _ _ _ _ ?_
    by_cases h2 : 0 ≤ a ∧ a ≤ b
    · rw [decide_eq_true h2] at h ⊢
      simp (disch := omega)
      refine l01In_does _ _ _ _ _ ?_
      by_cases h3 : 0 ≤ c ∧ c ≤ b - 1
      · rw [decide_eq_true h3] at h ⊢
        simp (disch := omega)
        refine l01In_does _ _ _ _ _ ?_
        by_cases h4 : 0 ≤ n ∧ n ≤ 60
        · rw [decide_eq_true h4] at h ⊢
          simp only [Bool.and_self, if_true] at h
          obtain ⟨a, rfl⟩ : ∃ a' : Nat, a = a' := ⟨a.toNat, by omega⟩
          obtain ⟨b, rfl⟩ : ∃ b' : Nat, b = b' := ⟨b.toNat, by omega⟩
          obtain ⟨c, rfl⟩ : ∃ c' : Nat, c = c' := ⟨c.toNat, by omega⟩
          obtain ⟨n, rfl⟩ : ∃ n' : Nat, n = n' := ⟨n.toNat, by omega⟩
          simp only [Int.toNat_natCast] at h
          simp (disch := omega)
          first
          | refine stepped_does a b c n _ _ (by omega) (by omega) (by omega) (by omega) (by omega) ?_
            simp (disch := omega)
            exact ret_of h
          | (refine loop_to tab_ok [10, 11, 33, 34, 35, 36, 37, 38, 39, 40, 41, 42, 43, 44, 45, 46, 47, 48, 49, 50, 51, 52, 53, 54, 55, 56, 57] (fun i : Nat => [(11, .int .i64 i), (10, str (stepL a b c i))]) (fun i M' => M = M' ∧ i ≤ n) (fun i => n - i) 0 (by kernel_rfl) (by simp (disch := omega) [stepL]) ⟨rfl, by omega⟩ ?_
             rintro i M' g ⟨rfl, hi⟩
             have hln := stepL_len a b c i
             by_cases hlt : i < n
             · obtain ⟨s, hs⟩ : ∃ s, s = i * a := ⟨_, rfl⟩
               obtain ⟨t, ht⟩ : ∃ t, t = (i + 1) * a := ⟨_, rfl⟩
               have hsb : s ≤ 9000000 := by rw [hs]; exact Nat.le_trans (Nat.mul_le_mul (by omega : i ≤ 3000) (by omega : a ≤ 3000)) (by decide)
               have htb : t ≤ 9003000 := by rw [ht]; exact Nat.le_trans (Nat.mul_le_mul (by omega : i + 1 ≤ 3001) (by omega : a ≤ 3000)) (by decide)
               have e1 : (i : Int) * (a : Int) = s := by rw [hs]; exact (Int.natCast_mul _ _).symm
               have e2 : ((i : Int) + 1) * (a : Int) = t := by rw [ht]; push_cast; rfl
               obtain ⟨x, hx⟩ : ∃ x, x = (t + c) / b := ⟨_, rfl⟩
               obtain ⟨y, hy⟩ : ∃ y, y = (s + c) / b := ⟨_, rfl⟩
               have hxb : x ≤ t + c := by rw [hx]; exact Nat.div_le_self _ _
               have hyb : y ≤ s + c := by rw [hy]; exact Nat.div_le_self _ _
               have e3 : ((t : Int) + c).tdiv b = x := by rw [hx]; rfl
               have e4 : ((s : Int) + c).tdiv b = y := by rw [hy]; rfl
               have hb0 : ¬ (b : Int) = 0 := by omega
               have hrec : stepL a b c (i + 1) = stepL a b c i ++ [if x = y then 97 else 98] := by rw [stepL, ← ht, ← hs, ← hx, ← hy]
               simp (disch := omega)
               refine draw_to tab_ok (by kernel_rfl) (by kernel_rfl) (by rfl) ?_
               by_cases hxy : x = y
               · rw [if_pos hxy] at hrec
                 have hxy' : (x : Int) = y := by omega
                 simp (disch := omega) [e1, e2, e3, e4, hb0, hxy']
                 refine Rnd.mk' (i + 1) (by omega) (by (repeat (first | exact km | refine kp rfl ?_ | refine km' rfl ?_))) (by simp (disch := omega) [hrec]) ⟨rfl, by omega⟩
               · rw [if_neg hxy] at hrec
                 have hxy' : ¬ (x : Int) = y := by omega
                 simp (disch := omega) [e1, e2, e3, e4, hb0, hxy']
                 refine Rnd.mk' (i + 1) (by omega) (by (repeat (first | exact km | refine kp rfl ?_ | refine km' rfl ?_))) (by simp (disch := omega) [hrec]) ⟨rfl, by omega⟩
             · have hi' : i = n := by omega
               subst hi'
               simp (disch := omega)
               exact ret_of h)
        · rw [decide_eq_false h4] at h ⊢
          simp only [Bool.and_false, Bool.false_and, Bool.false_eq_true, if_false] at h
          simp (disch := omega)
          exact ret_of h
      · rw [decide_eq_false h3] at h ⊢
        simp only [Bool.and_false, Bool.false_and, Bool.false_eq_true, if_false] at h
        simp (disch := omega)
        exact ret_of h
    · rw [decide_eq_false h2] at h ⊢
      simp only [Bool.and_false, Bool.false_and, Bool.false_eq_true, if_false] at h
      simp (disch := omega)
      exact ret_of h
  · rw [decide_eq_false h1] at h ⊢
    simp only [Bool.and_false, Bool.false_and, Bool.false_eq_true, if_false] at h
    simp (disch := omega)
    exact ret_of h
theorem isLyndon_yes (w : List UInt8) (M : Mem) (R : Value → Mem → Prop) (hl : w.length ≤ 60) (h1 : 1 ≤ w.length) (hly : ∀ k, 1 ≤ k → k < w.length → (Op.bytesLess (w.drop k ++ w.take k) w || w.drop k ++ w.take k == w) = false) (h : R (.bool true) M) : Does Tryz.prog 100 [str w] M R := by
  refine does_fn tab_ok Tryz.func100 rfl (by kernel_rfl) (by kernel_rfl) Tryz.ntmps100 Tryz.results100 rfl ?_
  simp (disch := omega)
  refine loop_to tab_ok [2, 3, 4, 5, 6, 7, 8, 9, 10, 11, 12, 13, 14, 15, 16, 17, 18] (fun i : Nat => [(3, .int .i64 i)]) (fun i M' => M = M' ∧ 1 ≤ i ∧ i ≤ w.length) (fun i => w.length - i) 1 (by kernel_rfl) (by simp (disch := omega)) ⟨rfl, by omega, by omega⟩ ?_
  rintro i M' g ⟨rfl, hi1, hi⟩
  by_cases hlt : i < w.length
  · have hly := hly i hi1 hlt
    have hly1 := (Bool.or_eq_false_iff.1 hly).1
    have hly2 := (Bool.or_eq_false_iff.1 hly).2
    have hly3 : ¬ w.drop i ++ w.take i = w := by rw [beq_eq_false_iff_ne] at hly2; exact hly2
    simp (disch := omega)
    refine draw_to tab_ok (by kernel_rfl) (by kernel_rfl) (by rfl) ?_
    simp (disch := omega) [hly, hly1, hly2, hly3]
    exact Rnd.mk' (i + 1) (by omega) (by (repeat (first | exact km | refine kp rfl ?_ | refine km' rfl ?_))) (by simp (disch := omega)) ⟨rfl, by omega, by omega⟩
  · have hne : ¬ w = [] := by rintro rfl; simp at h1
    have hne2 : w.isEmpty = false := by cases w with | nil => exact absurd rfl hne | cons a b => rfl
    simp (disch := omega) [hne, hne2]
    exact ret_of h
theorem impl_IsLyndon (w : List UInt8) (M : Mem) (R : Value → Mem → Prop) (hw : isWord w = true) (h1 : 1 ≤ w.length) (hly : ∀ k, 1 ≤ k → k < w.length → (Op.bytesLess (w.drop k ++ w.take k) w || w.drop k ++ w.take k == w) = false) (h : ∀ M', Sub M M' → R (tup2 (.bool true) 0) M') : Does Tryz.prog 41 [str w] M R := by
  have h60 := isWord_len hw
  refine does_fn tab_ok Tryz.func41 rfl (by kernel_rfl) (by kernel_rfl) Tryz.ntmps41 Tryz.results41 rfl ?_
  simp (disch := omega)
  intro b1 hb1
  simp (disch := omega)
  have hs1 : Sub M (M.put b1 (.cells true [str w] 1)) := (Sub.refl _).put hb1 _
  refine wordCode_does _ _ [w] true (fun _ => True) _ _ (Rd.new rfl (Nat.le_refl 1)) (fine1 (by omega)) (by simp) trivial stab_true (always_tells _) ?_
  rw [codeOf1, hw]
  unfold tup2 at h
  simp (disch := omega)
  refine isLyndon_yes w _ _ h60 h1 hly ?_
  simp (disch := omega)
  exact ret_of (h _ hs1)
end Go.Proofs.YticejlplbibegaaGreatDoor
/-! Contracts: standard words, of both. -/
namespace Go.Proofs.YticejlplbibegaaGreatDoor
open Go Go.RowKit
set_option linter.unusedSimpArgs false
set_option linter.unusedVariables false

theorem repF_len9 (w : List UInt8) (k : Nat) : (repF w k).length = k * w.length := by
  unfold repF
  rw [List.length_flatten, List.map_replicate, List.sum_replicate_nat]
theorem repF_snoc9 (w : List UInt8) (k : Nat) : repF w (k + 1) = repF w k ++ w := by
  unfold repF
  rw [List.replicate_succ', List.flatten_append]; simp
/-- The standard word of a list behind two words. -/
def stdF : List Int → List UInt8 → List UInt8 → Option (List UInt8)
  | [], _, own => some own
  | d :: ds, last, own => if d.toNat * own.length + last.length ≤ 60 then stdF ds own (repF own d.toNat ++ last) else none
def stdAt (zs : List Int) (i : Nat) : Bool := decide ((if i = 0 then 0 else 1) ≤ zs.getD i 0 ∧ zs.getD i 0 ≤ 60)
def stdOk (zs : List Int) : Bool := decide (zs.length ≤ 20) && (List.range zs.length).all (stdAt zs)
def stdC (zs : List Int) : Int := if stdOk zs = true then (match stdF zs [98] [97] with | some _ => 0 | none => 3) else 2
def stdW (zs : List Int) : List UInt8 := if stdOk zs = true then (match stdF zs [98] [97] with | some w => w | none => []) else []
theorem stdF_len : ∀ (ds : List Int) (last own w : List UInt8), own.length ≤ 60 → stdF ds last own = some w → w.length ≤ 60
  | [], last, own, w, h, e => by
    injection e with e
    subst e; exact h
  | d :: ds, last, own, w, h, e => by
    unfold stdF at e
    split at e
    · exact stdF_len ds _ _ w (by rw [List.length_append, repF_len9]; omega) e
    · cases e
theorem stdW_len (zs : List Int) : (stdW zs).length ≤ 60 := by
  unfold stdW
  split
  · split
    · rename_i w h; exact stdF_len zs _ _ w (by decide) h
    · exact Nat.zero_le _
  · exact Nat.zero_le _
theorem stdOk_no {zs : List Int} {i : Nat} (hi : i < zs.length) (h : stdAt zs i = false) : stdOk zs = false := by
  unfold stdOk
  have : (List.range zs.length).all (stdAt zs) = false := by
    rw [List.all_eq_false]
    exact ⟨i, List.mem_range.2 hi, by rw [h]; decide⟩
  rw [this, Bool.and_false]
theorem stdOk_yes {zs : List Int} (hl : zs.length ≤ 20) (h : ∀ j, j < zs.length → stdAt zs j = true) : stdOk zs = true := by
  unfold stdOk
  rw [decide_eq_true hl, Bool.true_and, List.all_eq_true]
  exact fun j hj => h j (List.mem_range.1 hj)
theorem stdAt_is {zs : List Int} {i : Nat} {z : Int} (hi : zs[i]? = some z) : stdAt zs i = decide ((if i = 0 then 0 else 1) ≤ z ∧ z ≤ 60) := by
  unfold stdAt
  rw [List.getD_eq_getElem?_getD, hi]; rfl
theorem ints_at {N : Mem} {a : Option Addr} {c n : Nat} {zs : List Int} (h : Rd N (.slice a n c) (ints zs)) (h1 : 1 ≤ zs.length) : ∃ b o, a = some ⟨b, o, none⟩ ∧ ∀ i, i < zs.length → N.get? b (o + i) = some (.int .i64 (zs.getD i 0)) := by
  obtain ⟨a', c', he, hat⟩ := h.opened
  rw [ints_length] at he hat
  injection he with e1 e2 e3
  rcases hat with h0 | ⟨b, o, e4, hat⟩
  · omega
  · refine ⟨b, o, by rw [e1, e4], fun i hi => ?_⟩
    rw [hat i hi, ints_get, List.getElem?_eq_getElem hi, List.getD_eq_getElem?_getD, List.getElem?_eq_getElem hi]; rfl
theorem drop_cons {zs : List Int} {i : Nat} (h : i < zs.length) : zs.drop i = zs.getD i 0 :: zs.drop (i + 1) := by
  rw [List.getD_eq_getElem?_getD, List.getElem?_eq_getElem h]
  exact List.drop_eq_getElem_cons h
theorem l08Standard_does (v : Value) (zs : List Int) (M : Mem) (R : Value → Mem → Prop) (hv : Rd M v (ints zs)) (hl : zs.length ≤ 20) (hz : ∀ j, j < zs.length → 0 ≤ zs.getD j 0 ∧ zs.getD j 0 ≤ 60)
    (h : R (.tuple #[str (match stdF zs [98] [97] with | some w => w | none => []), .bool (stdF zs [98] [97]).isSome]) M) : Does Tryz.prog 104 [v] M R := by
  obtain ⟨a, c, rfl, _⟩ := hv.opened
  have hv' := hv
  rw [ints_length] at hv' ⊢
  refine does_fn tab_ok Tryz.func104 rfl (by kernel_rfl) (by kernel_rfl) Tryz.ntmps104 Tryz.results104 rfl ?_
  simp (disch := omega)
  refine loop_to tab_ok [2, 3, 4, 5, 6, 7, 8, 9, 10, 11, 12, 13, 14, 15, 16, 17, 18, 19, 20, 21, 22, 23, 24, 25, 26, 27, 28, 29, 30, 31, 32, 33, 34, 35, 36, 37, 38] (fun x : Nat × List UInt8 × List UInt8 => [(6, .int .i64 (x.1 : Nat)), (4, str x.2.1), (5, str x.2.2)]) (fun x M' => M = M' ∧ x.1 ≤ zs.length ∧ stdF (zs.drop x.1) x.2.1 x.2.2 = stdF zs [98] [97] ∧ x.2.1.length ≤ 60 ∧ x.2.2.length ≤ 60) (fun x => zs.length - x.1) (0, [98], [97]) (by kernel_rfl) (by simp (disch := omega)) ⟨rfl, by simp only; omega, rfl, by decide, by decide⟩ ?_
  rintro ⟨i, be, now⟩ M' g ⟨rfl, hi, hS, hb, hn⟩
  simp only at hi hS hb hn
  by_cases hlt : i < zs.length
  · obtain ⟨b, o, rfl, hat⟩ := ints_at hv' (by omega)
    have hg := hat i hlt
    have hzi := hz i hlt
    rw [drop_cons hlt, stdF] at hS
    obtain ⟨d, hd⟩ : ∃ d : Nat, zs.getD i 0 = d := ⟨(zs.getD i 0).toNat, by omega⟩
    rw [hd] at hg hzi hS
    rw [Int.toNat_natCast] at hS
    simp (disch := omega)
    refine loop_to tab_ok [7, 8, 15, 16, 17, 18, 19, 20, 21, 22, 23, 24, 25, 26, 27, 28, 29, 30] (fun k : Nat => [(8, .int .i64 k), (7, str (repF now k))]) (fun k M' => M = M' ∧ k ≤ d ∧ (repF now k).length ≤ 120) (fun k => d - k) 0 (by kernel_rfl) (by simp (disch := omega) [repF]) ⟨rfl, by omega, by simp [repF]⟩ ?_
    rintro k M' g ⟨rfl, hk, hkl⟩
    have hrl := repF_len9 now k
    have hmul : k * now.length ≤ d * now.length := Nat.mul_le_mul_right _ hk
    generalize hX : repF now k = X at *
    by_cases hkd : k < d
    · by_cases h60 : X.length ≤ 60
      · have e : repF now (k + 1) = X ++ now := by rw [repF_snoc9, hX]
        have h60I : (X.length : Int) ≤ 60 := by omega
        simp (disch := omega) [hg, h60, h60I, hkd]
        refine Rnd.mk' (k + 1) (by omega) (by (repeat (first | exact km | refine kp rfl ?_ | refine km' rfl ?_))) (by simp (disch := omega) [e]) ⟨rfl, by omega, ?_⟩
        rw [e, List.length_append]; omega
      · have hno : ¬ d * now.length + be.length ≤ 60 := by omega
        rw [if_neg hno] at hS
        rw [← hS] at h
        have h61 : ¬ ((X.length : Int) ≤ 60) := by omega
        have h62 : 60 < X.length + be.length := by omega
        have h63 : (60 : Int) < (X.length : Int) + be.length := by omega
        simp (disch := omega) [hg, h60, h61, h62, h63]
        exact ret_of h
    · have hkd' : k = d := by omega
      subst hkd'
      by_cases h60 : k * now.length + be.length ≤ 60
      · rw [if_pos h60, hX] at hS
        have h62 : ¬ 60 < X.length + be.length := by omega
        have h63 : ¬ (60 : Int) < (X.length : Int) + be.length := by omega
        simp (disch := omega) [hg, h62, h63]
        refine Rnd.mk' (i + 1, now, X ++ be) (by simp only; omega) (by (repeat (first | exact km | refine kp rfl ?_ | refine km' rfl ?_))) (by simp (disch := omega)) ⟨rfl, by simp only; omega, hS, hn, by simp only [List.length_append]; omega⟩
      · rw [if_neg h60] at hS
        rw [← hS] at h
        have h62 : 60 < X.length + be.length := by omega
        have h63 : (60 : Int) < (X.length : Int) + be.length := by omega
        simp (disch := omega) [hg, h62, h63]
        exact ret_of h
  · have hi' : i = zs.length := by omega
    subst hi'
    rw [List.drop_length, stdF] at hS
    rw [← hS] at h
    simp (disch := omega)
    exact ret_of h
theorem spec_StandardWord (v : Value) (zs : List Int) (M : Mem) (R : Value → Mem → Prop) (hv : Rd M v (ints zs)) (hn : zs.length ≤ 1099511627776) (h : R (tup2 (str (stdW zs)) (stdC zs)) M) : Does Tryz.prog 44 [v] M R := by
  unfold tup2 stdW stdC at h
  obtain ⟨a, c, rfl, _⟩ := hv.opened
  have hv' := hv
  rw [ints_length] at hv' ⊢
  refine does_fn tab_ok Tryz.func44 rfl (by kernel_rfl) (by kernel_rfl) Tryz.ntmps44 Tryz.results44 rfl ?_
  by_cases hl : zs.length ≤ 20
  · have hl' : ¬ (20 : Int) < zs.length := by omega
    have hl2 : ¬ 20 < zs.length := by omega
    simp (disch := omega) [hl', hl2]
    refine loop_to tab_ok [2, 3, 4, 10, 11, 12, 13, 14, 15, 16, 17, 18, 19, 20, 21, 22, 23, 24, 25, 26, 27, 28, 29, 30, 31, 32] (fun i : Nat => [(4, .int .i64 i)]) (fun i M' => M = M' ∧ i ≤ zs.length ∧ ∀ j, j < i → stdAt zs j = true) (fun i => zs.length - i) 0 (by kernel_rfl) (by simp (disch := omega)) ⟨rfl, by omega, fun j hj => by omega⟩ ?_
    rintro i M' g ⟨rfl, hi, hS⟩
    by_cases hlt : i < zs.length
    · obtain ⟨b, o, rfl, hat⟩ := ints_at hv' (by omega)
      have hg := hat i hlt
      have hzi := stdAt_is (zs := zs) (i := i) (z := zs.getD i 0) (by rw [List.getElem?_eq_getElem hlt, List.getD_eq_getElem?_getD, List.getElem?_eq_getElem hlt]; rfl)
      generalize zs.getD i 0 = z at *
      simp (disch := omega) [hg]
      refine l01In_does _ _ _ _ _ ?_
      by_cases h1 : 0 ≤ z ∧ z ≤ 60
      · rw [decide_eq_true h1]
        by_cases h0 : i = 0
        · subst h0
          rw [if_pos rfl, decide_eq_true h1] at hzi
          simp (disch := omega)
          refine Rnd.mk' (0 + 1) (by omega) (by (repeat (first | exact km | refine kp rfl ?_ | refine km' rfl ?_))) (by simp (disch := omega)) ⟨rfl, by omega, fun j hj => ?_⟩
          rw [show j = 0 by omega]; exact hzi
        · have hpos : (0 : Int) < i := by omega
          have hpos' : 0 < i := by omega
          rw [if_neg h0] at hzi
          by_cases hz0 : z = 0
          · rw [decide_eq_false (by omega)] at hzi
            rw [stdOk_no hlt hzi] at h
            simp only [Bool.false_eq_true, if_false] at h
            simp (disch := omega) [hpos, hpos', hg, hz0]
            exact ret_of h
          · rw [decide_eq_true (by omega)] at hzi
            have hz0' : (z == 0) = false := beq_eq_false_iff_ne.2 hz0
            simp (disch := omega) [hpos, hpos', hg, hz0, hz0']
            refine Rnd.mk' (i + 1) (by omega) (by (repeat (first | exact km | refine kp rfl ?_ | refine km' rfl ?_))) (by simp (disch := omega)) ⟨rfl, by omega, fun j hj => ?_⟩
            rcases Nat.lt_or_ge j i with h | h
            · exact hS j h
            · rw [show j = i by omega]; exact hzi
      · rw [decide_eq_false h1]
        have h2 : stdAt zs i = false := by
          rw [hzi]
          refine decide_eq_false fun hh => h1 ⟨?_, hh.2⟩
          have := hh.1
          split at this <;> omega
        rw [stdOk_no hlt h2] at h
        simp only [Bool.false_eq_true, if_false] at h
        simp (disch := omega) [undef]
        exact ret_of h
    · have hi' : i = zs.length := by omega
      subst hi'
      have hok := stdOk_yes hl hS
      rw [hok] at h
      simp only [if_true] at h
      simp (disch := omega)
      refine l08Standard_does _ zs _ _ hv' hl (fun j hj => ?_) ?_
      · have := hS j hj
        unfold stdAt at this
        rw [decide_eq_true_eq] at this
        have h3 := this.1
        split at h3 <;> omega
      · cases hF : stdF zs [98] [97] with
        | none =>
          rw [hF] at h
          simp only [Option.isSome] at h ⊢
          simp (disch := omega)
          exact ret_of h
        | some w =>
          rw [hF] at h
          simp only [Option.isSome] at h ⊢
          simp (disch := omega)
          exact ret_of h
  · have hl' : (20 : Int) < zs.length := by omega
    have hl2 : 20 < zs.length := by omega
    have hno : stdOk zs = false := by unfold stdOk; rw [decide_eq_false hl, Bool.false_and]
    rw [hno] at h
    simp only [Bool.false_eq_true, if_false] at h
    simp (disch := omega) [hl', hl2]
    exact ret_of h
end Go.Proofs.YticejlplbibegaaGreatDoor
/-! Contracts: standard words of the program; numbers of balanced words, of both. -/
namespace Go.Proofs.YticejlplbibegaaGreatDoor
open Go Go.RowKit
set_option linter.unusedSimpArgs false
set_option linter.unusedVariables false
theorem impl_StandardWord (v : Value) (zs : List Int) (M : Mem) (R : Value → Mem → Prop) (hv : Rd M v (ints zs)) (hn : zs.length ≤ 1099511627776) (h : R (tup2 (str (stdW zs)) (stdC zs)) M) : Does Tryz.prog 43 [v] M R := by
  unfold tup2 stdW stdC at h
  obtain ⟨a, c, rfl, _⟩ := hv.opened
  have hv' := hv
  rw [ints_length] at hv' ⊢
  refine does_fn tab_ok Tryz.func43 rfl (by kernel_rfl) (by kernel_rfl) Tryz.ntmps43 Tryz.results43 rfl ?_
  by_cases hl : zs.length ≤ 20
  · have hl' : ¬ (20 : Int) < zs.length := by omega
    have hl2 : ¬ 20 < zs.length := by omega
    simp (disch := omega) [hl', hl2]
    refine loop_to tab_ok [2, 3, 4, 5, 15, 16, 17, 18, 19, 20, 21, 22, 23, 24, 25] (fun i : Nat => [(15, .int .i64 i)]) (fun i M' => M = M' ∧ i ≤ zs.length ∧ ∀ j, j < i → stdAt zs j = true) (fun i => zs.length - i) 0 (by kernel_rfl) (by simp (disch := omega)) ⟨rfl, by omega, fun j hj => by omega⟩ ?_
    rintro i M' g ⟨rfl, hi, hS⟩
    by_cases hlt : i < zs.length
    · obtain ⟨b, o, rfl, hat⟩ := ints_at hv' (by omega)
      have hg := hat i hlt
      have hzi := stdAt_is (zs := zs) (i := i) (z := zs.getD i 0) (by rw [List.getElem?_eq_getElem hlt, List.getD_eq_getElem?_getD, List.getElem?_eq_getElem hlt]; rfl)
      generalize zs.getD i 0 = z at *
      have hm : (if (i : Int) < 1 then (i : Int) else 1) = if i = 0 then 0 else 1 := by split <;> split <;> omega
      have hm2 : (if (1 : Int) < i then (1 : Int) else i) = if i = 0 then 0 else 1 := by split <;> split <;> omega
      obtain ⟨y, hy⟩ : ∃ y : Int, y = if i = 0 then 0 else 1 := ⟨_, rfl⟩
      rw [← hy] at hm hm2 hzi
      simp (disch := omega) [hg, hm, hm2]
      refine within_does _ y _ _ _ ?_
      by_cases h1 : y ≤ z ∧ z ≤ 60
      · rw [decide_eq_true h1] at hzi ⊢
        simp (disch := omega)
        refine Rnd.mk' (i + 1) (by omega) (by (repeat (first | exact km | refine kp rfl ?_ | refine km' rfl ?_))) (by simp (disch := omega)) ⟨rfl, by omega, fun j hj => ?_⟩
        rcases Nat.lt_or_ge j i with h | h
        · exact hS j h
        · rw [show j = i by omega]; exact hzi
      · rw [decide_eq_false h1] at hzi ⊢
        rw [stdOk_no hlt hzi] at h
        simp only [Bool.false_eq_true, if_false] at h
        simp (disch := omega)
        exact ret_of h
    · have hi' : i = zs.length := by omega
      subst hi'
      have hok := stdOk_yes hl hS
      have hz : ∀ j, j < zs.length → 0 ≤ zs.getD j 0 ∧ zs.getD j 0 ≤ 60 := fun j hj => by
        have := hS j hj
        unfold stdAt at this
        rw [decide_eq_true_eq] at this
        have h3 := this.1
        split at h3 <;> omega
      rw [hok] at h
      simp only [if_true] at h
      simp (disch := omega)
      refine loop_to tab_ok [2, 3, 6, 7, 9, 28, 29, 30, 31, 32, 33, 34, 35, 36, 37, 38, 39, 40, 41, 42, 43, 44, 45, 46] (fun x : Nat × List UInt8 × List UInt8 => [(28, .int .i64 (x.1 : Nat)), (6, str x.2.1), (7, str x.2.2)]) (fun x M' => M = M' ∧ x.1 ≤ zs.length ∧ stdF (zs.drop x.1) x.2.1 x.2.2 = stdF zs [98] [97] ∧ x.2.1.length ≤ 60 ∧ x.2.2.length ≤ 60) (fun x => zs.length - x.1) (0, [98], [97]) (by kernel_rfl) (by simp (disch := omega)) ⟨rfl, by simp only; omega, rfl, by decide, by decide⟩ ?_
      rintro ⟨i, be, now⟩ M' g ⟨rfl, hi, hS2, hb, hnw⟩
      simp only at hi hS2 hb hnw
      by_cases hlt : i < zs.length
      · obtain ⟨b, o, rfl, hat⟩ := ints_at hv' (by omega)
        have hg := hat i hlt
        have hzi := hz i hlt
        rw [drop_cons hlt, stdF] at hS2
        obtain ⟨d, hd⟩ : ∃ d : Nat, zs.getD i 0 = d := ⟨(zs.getD i 0).toNat, by omega⟩
        rw [hd] at hg hzi hS2
        rw [Int.toNat_natCast] at hS2
        obtain ⟨m, hm⟩ : ∃ m, d * now.length = m := ⟨_, rfl⟩
        have hmb : m ≤ 60 * 60 := by rw [← hm]; exact Nat.mul_le_mul (by omega) hnw
        have hmI : (now.length : Int) * (d : Int) = m := by rw [← hm, Nat.mul_comm]; push_cast; rfl
        rw [hm] at hS2
        simp (disch := omega) [hg]
        refine size_does now _ _ (by omega) ?_
        simp (disch := omega) [hmI]
        refine size_does be _ _ (by omega) ?_
        by_cases h60 : m + be.length ≤ 60
        · rw [if_pos h60] at hS2
          have h61 : ¬ 60 < m + be.length := by omega
          have h62 : ¬ (60 : Int) < (m : Int) + be.length := by omega
          simp (disch := omega) [h61, h62]
          refine repeat_does now d _ _ hnw (by omega) ?_
          have hrl := repF_len9 now d
          generalize repF now d = X at *
          simp (disch := omega)
          refine Rnd.mk' (i + 1, now, X ++ be) (by simp only; omega) (by (repeat (first | exact km | refine kp rfl ?_ | refine km' rfl ?_))) (by simp (disch := omega)) ⟨rfl, by simp only; omega, hS2, hnw, by simp only [List.length_append]; omega⟩
        · rw [if_neg h60] at hS2
          rw [← hS2] at h
          have h61 : 60 < m + be.length := by omega
          have h62 : (60 : Int) < (m : Int) + be.length := by omega
          simp (disch := omega) [h61, h62]
          exact ret_of h
      · have hi' : i = zs.length := by omega
        subst hi'
        rw [List.drop_length, stdF] at hS2
        rw [← hS2] at h
        simp (disch := omega)
        exact ret_of h
  · have hl' : (20 : Int) < zs.length := by omega
    have hl2 : 20 < zs.length := by omega
    have hno : stdOk zs = false := by unfold stdOk; rw [decide_eq_false hl, Bool.false_and]
    rw [hno] at h
    simp only [Bool.false_eq_true, if_false] at h
    simp (disch := omega) [hl', hl2]
    exact ret_of h
/-- How many numbers up to one have no common divisor with it. -/
def totR (n : Nat) : Nat → Nat
  | 0 => 0
  | k + 1 => totR n k + if Nat.gcd (k + 1) n = 1 then 1 else 0
theorem totR_le (n : Nat) : ∀ k, totR n k ≤ k
  | 0 => Nat.le_refl _
  | k + 1 => by
    have := totR_le n k
    unfold totR
    split <;> omega
def cbN (n : Nat) : Nat → Nat
  | 0 => 1
  | i + 1 => cbN n i + (n - i) * totR (i + 1) (i + 1)
theorem cbN_le {n : Nat} (hn : n ≤ 1000) : ∀ i, i ≤ 1000 → cbN n i ≤ 1 + i * 1000000
  | 0, _ => by unfold cbN; omega
  | i + 1, hi => by
    have := cbN_le hn i (by omega)
    have h2 : (n - i) * totR (i + 1) (i + 1) ≤ 1000 * 1000 := Nat.mul_le_mul (by omega) (by have := totR_le (i + 1) (i + 1); omega)
    unfold cbN
    omega
def cbC (n : Int) : Int := if 0 ≤ n ∧ n ≤ 1000 then 0 else 2
def cbV (n : Int) : Nat := if 0 ≤ n ∧ n ≤ 1000 then cbN n.toNat n.toNat else 0
theorem totient_does (n : Nat) (M : Mem) (R : Value → Mem → Prop) (hn : n ≤ 1000) (h : R (.int .i64 (totR n n : Nat)) M) : Does Tryz.prog 117 [.int .i64 n] M R := by
  refine does_fn tab_ok Tryz.func117 rfl (by kernel_rfl) (by kernel_rfl) Tryz.ntmps117 Tryz.results117 rfl ?_
  simp (disch := omega)
  refine loop_to tab_ok [3, 4, 5, 6, 7, 8, 9, 10, 11, 12, 13, 14, 15] (fun k : Nat => [(4, .int .i64 ((k : Int) + 1)), (3, .int .i64 (totR n k : Nat))]) (fun k M' => M = M' ∧ k ≤ n) (fun k => n - k) 0 (by kernel_rfl) (by simp (disch := omega) [totR]) ⟨rfl, by omega⟩ ?_
  rintro k M' g ⟨rfl, hk⟩
  have hle := totR_le n k
  by_cases hlt : k < n
  · have e : totR n (k + 1) = totR n k + if Nat.gcd (k + 1) n = 1 then 1 else 0 := rfl
    have hk1 : (k : Int) + 1 = ((k + 1 : Nat) : Int) := by omega
    have hlt' : (k : Int) + 1 ≤ n := by omega
    generalize totR n k = t at *
    simp (disch := omega) [hlt']
    rw [hk1]
    refine divisor_does (k + 1) n _ _ (by omega) (by omega) ?_
    by_cases hG : Nat.gcd (k + 1) n = 1
    · rw [if_pos hG] at e
      rw [hG]
      simp (disch := omega)
      refine Rnd.mk' (k + 1) (by omega) (by (repeat (first | exact km | refine kp rfl ?_ | refine km' rfl ?_))) (by simp (disch := omega) [e]) ⟨rfl, by omega⟩
    · rw [if_neg hG] at e
      have hGI : ¬ ((Nat.gcd (k + 1) n : Nat) : Int) = 1 := by omega
      generalize Nat.gcd (k + 1) n = G at *
      simp (disch := omega) [hGI]
      refine Rnd.mk' (k + 1) (by omega) (by (repeat (first | exact km | refine kp rfl ?_ | refine km' rfl ?_))) (by simp (disch := omega) [e]) ⟨rfl, by omega⟩
  · have hk' : k = n := by omega
    subst hk'
    have hlt' : ¬ (k : Int) + 1 ≤ k := by omega
    generalize totR k k = t at *
    simp (disch := omega) [hlt']
    exact ret_of h
theorem impl_CountBalanced (n : Int) (M : Mem) (R : Value → Mem → Prop) (h : R (.tuple #[.int .i64 (cbV n : Nat), .int .i64 (cbC n)]) M) : Does Tryz.prog 56 [.int .i64 n] M R := by
  unfold cbV cbC at h
  refine does_fn tab_ok Tryz.func56 rfl (by kernel_rfl) (by kernel_rfl) Tryz.ntmps56 Tryz.results56 rfl ?_
  simp (disch := omega)
  refine within_does _ _ _ _ _ ?_
  by_cases h1 : 0 ≤ n ∧ n ≤ 1000
  · rw [if_pos h1, if_pos h1] at h
    rw [decide_eq_true h1]
    obtain ⟨n, rfl⟩ : ∃ n' : Nat, n = n' := ⟨n.toNat, by omega⟩
    rw [Int.toNat_natCast] at h
    simp (disch := omega)
    refine loop_to tab_ok [4, 5, 9, 10, 11, 12, 13, 14, 15, 16, 17, 18, 19, 20, 21, 22] (fun i : Nat => [(5, .int .i64 ((i : Int) + 1)), (4, .int .i64 (cbN n i : Nat))]) (fun i M' => M = M' ∧ i ≤ n) (fun i => n - i) 0 (by kernel_rfl) (by simp (disch := omega) [cbN]) ⟨rfl, by omega⟩ ?_
    rintro i M' g ⟨rfl, hi⟩
    have hle := cbN_le (n := n) (by omega) i (by omega)
    by_cases hlt : i < n
    · have e : cbN n (i + 1) = cbN n i + (n - i) * totR (i + 1) (i + 1) := rfl
      have hk1 : (i : Int) + 1 = ((i + 1 : Nat) : Int) := by omega
      have hlt' : (i : Int) + 1 ≤ n := by omega
      have ht := totR_le (i + 1) (i + 1)
      obtain ⟨d, hd⟩ : ∃ d, n - i = d := ⟨_, rfl⟩
      have hdI : (n : Int) - ((i : Int) + 1) + 1 = d := by omega
      rw [hd] at e
      have hmul : d * totR (i + 1) (i + 1) ≤ 1000 * 1000 := Nat.mul_le_mul (by omega) (by omega)
      obtain ⟨p, hp⟩ : ∃ p, d * totR (i + 1) (i + 1) = p := ⟨_, rfl⟩
      have hpI : (d : Int) * ((totR (i + 1) (i + 1) : Nat) : Int) = p := by rw [← hp]; push_cast; rfl
      rw [hp] at e hmul
      generalize cbN n i = C at *
      simp (disch := omega) [hlt']
      rw [hk1]
      refine totient_does (i + 1) _ _ (by omega) ?_
      generalize totR (i + 1) (i + 1) = T at *
      rw [← hk1]
      simp (disch := omega) [hdI, hpI]
      refine Rnd.mk' (i + 1) (by omega) (by (repeat (first | exact km | refine kp rfl ?_ | refine km' rfl ?_))) (by simp (disch := omega) [e]) ⟨rfl, by omega⟩
    · have hi' : i = n := by omega
      subst hi'
      have hlt' : ¬ (i : Int) + 1 ≤ i := by omega
      generalize cbN i i = C at *
      simp (disch := omega) [hlt']
      exact ret_of h
  · rw [if_neg h1, if_neg h1] at h
    rw [decide_eq_false h1]
    simp (disch := omega)
    exact ret_of h
theorem spec_CountBalanced (n : Int) (M : Mem) (R : Value → Mem → Prop) (h : R (.tuple #[.int .i64 (cbV n : Nat), .int .i64 (cbC n)]) M) : Does Tryz.prog 57 [.int .i64 n] M R := by
  unfold cbV cbC at h
  refine does_fn tab_ok Tryz.func57 rfl (by kernel_rfl) (by kernel_rfl) Tryz.ntmps57 Tryz.results57 rfl ?_
  simp (disch := omega)
  refine l01In_does _ _ _ _ _ ?_
  by_cases h1 : 0 ≤ n ∧ n ≤ 1000
  · rw [if_pos h1, if_pos h1] at h
    rw [decide_eq_true h1]
    obtain ⟨n, rfl⟩ : ∃ n' : Nat, n = n' := ⟨n.toNat, by omega⟩
    rw [Int.toNat_natCast] at h
    simp (disch := omega)
    refine loop_to tab_ok [4, 5, 6, 7, 11, 12, 13, 14, 15, 16, 17, 18, 19, 20, 21, 22, 23, 24, 25, 26, 27, 28, 29, 30, 31, 32, 33, 34] (fun i : Nat => [(5, .int .i64 ((i : Int) + 1)), (4, .int .i64 (cbN n i : Nat))]) (fun i M' => M = M' ∧ i ≤ n) (fun i => n - i) 0 (by kernel_rfl) (by simp (disch := omega) [cbN]) ⟨rfl, by omega⟩ ?_
    rintro i M' g ⟨rfl, hi⟩
    have hle := cbN_le (n := n) (by omega) i (by omega)
    by_cases hlt : i < n
    · have e : cbN n (i + 1) = cbN n i + (n - i) * totR (i + 1) (i + 1) := rfl
      have hlt' : (i : Int) + 1 ≤ n := by omega
      have ht := totR_le (i + 1) (i + 1)
      obtain ⟨d, hd⟩ : ∃ d, n - i = d := ⟨_, rfl⟩
      have hdI : (n : Int) - ((i : Int) + 1) + 1 = d := by omega
      rw [hd] at e
      have hmul : d * totR (i + 1) (i + 1) ≤ 1000 * 1000 := Nat.mul_le_mul (by omega) (by omega)
      obtain ⟨p, hp⟩ : ∃ p, d * totR (i + 1) (i + 1) = p := ⟨_, rfl⟩
      have hpI : (d : Int) * ((totR (i + 1) (i + 1) : Nat) : Int) = p := by rw [← hp]; push_cast; rfl
      rw [hp] at e hmul
      generalize cbN n i = C at *
      obtain ⟨j, hj⟩ : ∃ j, j = i + 1 := ⟨_, rfl⟩
      have hjI : (i : Int) + 1 = j := by omega
      rw [← hj] at hpI ht
      simp (disch := omega) [hlt']
      refine loop_to tab_ok [6, 7, 16, 17, 18, 19, 20, 21, 22, 23, 24, 25, 26] (fun k : Nat => [(7, .int .i64 ((k : Int) + 1)), (6, .int .i64 (totR j k : Nat))]) (fun k M' => M = M' ∧ k ≤ j) (fun k => j - k) 0 (by kernel_rfl) (by simp (disch := omega) [totR]) ⟨rfl, by omega⟩ ?_
      rintro k M' g ⟨rfl, hk⟩
      have hle2 := totR_le j k
      rw [hjI]
      by_cases hklt : k < j
      · have e2 : totR j (k + 1) = totR j k + if Nat.gcd (k + 1) j = 1 then 1 else 0 := rfl
        have hk1 : (k : Int) + 1 = ((k + 1 : Nat) : Int) := by omega
        have hklt' : (k : Int) + 1 ≤ j := by omega
        generalize totR j k = t at *
        simp (disch := omega) [hklt']
        rw [hk1]
        refine l02Gcd_does j (k + 1) _ _ (by omega) (by omega) ?_
        rw [Nat.gcd_comm]
        by_cases hG : Nat.gcd (k + 1) j = 1
        · rw [if_pos hG] at e2
          rw [hG]
          simp (disch := omega)
          refine Rnd.mk' (k + 1) (by omega) (by (repeat (first | exact km | refine kp rfl ?_ | refine km' rfl ?_))) (by simp (disch := omega) [e2]) ⟨rfl, by omega⟩
        · rw [if_neg hG] at e2
          have hGI : ¬ ((Nat.gcd (k + 1) j : Nat) : Int) = 1 := by omega
          generalize Nat.gcd (k + 1) j = G at *
          simp (disch := omega) [hGI]
          refine Rnd.mk' (k + 1) (by omega) (by (repeat (first | exact km | refine kp rfl ?_ | refine km' rfl ?_))) (by simp (disch := omega) [e2]) ⟨rfl, by omega⟩
      · have hk' : k = j := by omega
        subst hk'
        have hklt' : ¬ (k : Int) + 1 ≤ k := by omega
        rw [hjI] at hdI
        generalize totR k k = T at *
        simp (disch := omega) [hklt', hdI, hpI]
        refine Rnd.mk' (i + 1) (by omega) (by (repeat (first | exact km | refine kp rfl ?_ | refine km' rfl ?_))) (by simp (disch := omega) [e, hjI]; try omega) ⟨rfl, by omega⟩
    · have hi' : i = n := by omega
      subst hi'
      have hlt' : ¬ (i : Int) + 1 ≤ i := by omega
      generalize cbN i i = C at *
      simp (disch := omega) [hlt']
      exact ret_of h
  · rw [if_neg h1, if_neg h1] at h
    rw [decide_eq_false h1]
    simp (disch := omega)
    exact ret_of h
end Go.Proofs.YticejlplbibegaaGreatDoor

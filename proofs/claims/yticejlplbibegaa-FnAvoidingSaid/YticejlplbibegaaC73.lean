/- Contracts: the first word and the number of words that avoid a pattern; Zimin words. -/
import Derived.Test.YticejlplbibegaaM18
namespace Go.Proofs.Yticejlplbibegaa
open Go
set_option linter.unusedSimpArgs false
set_option linter.unusedVariables false

/-- The search that keeps the first word. -/
def keepS : List UInt8 → List UInt8 → List UInt8 × Bool := fun _ w => (w, true)
theorem runS_keep (l : List (List UInt8)) (s : List UInt8) : runS keepS s l = if emL l then (s, false) else (hdL l, true) := by
  cases l with
  | nil => rfl
  | cons a l => rfl
/-- The search that counts. -/
def cntS : Nat → List UInt8 → Nat × Bool := fun n _ => (n + 1, false)
theorem runS_cnt : ∀ (l : List (List UInt8)) (n : Nat), runS cntS n l = (n + l.length, false)
  | [], n => rfl
  | a :: l, n => by
    have e : runS cntS n (a :: l) = runS cntS (n + 1) l := rfl
    rw [e, runS_cnt l (n + 1), List.length_cons, show n + 1 + l.length = n + (l.length + 1) by omega]
theorem avL_le (p : List UInt8) (k : Nat) : ∀ (d : Nat) (w : List UInt8), (avL p k d w).length ≤ k ^ d
  | 0, w => by simp [avL]
  | d + 1, w => by
    have h : ∀ i, (avN p k d w i).length ≤ i * k ^ d := by
      intro i
      induction i with
      | zero => simp [avN_zero]
      | succ i ih =>
        rw [avN_succ, List.length_append, Nat.add_mul, Nat.one_mul]
        have : (avS p k d w i).length ≤ k ^ d := by
          unfold avS
          split
          · simp
          · exact avL_le p k d _
        omega
    rw [avL_all, Nat.pow_succ, Nat.mul_comm]
    exact h k
theorem avL_small {p : List UInt8} {k n : Nat} (hk : k ≤ 3) (hn : n ≤ 9) (w : List UInt8) : (avL p k n w).length ≤ 19683 := by
  refine Nat.le_trans (avL_le p k n w) (Nat.le_trans (Nat.pow_le_pow_left hk n) ?_)
  exact Nat.pow_le_pow_right (by decide) hn
theorem wrap_succ (a : Int) : IntKind.i64.wrap (IntKind.i64.wrap a + 1) = IntKind.i64.wrap (a + 1) := by
  unfold IntKind.wrap
  simp [IntKind.bits, IntKind.signed]
  omega
theorem impl_FirstAvoiding (p : List UInt8) (k n : Int) (M : Mem) (R : Value → Mem → Prop) (hl : p.length ≤ 1099511627776) (h : ∀ M', Sub M M' → R (tup2 (str (firstT p k n)) (firstC p k n)) M') : Does Try.prog 9 [str p, .int .i64 k, .int .i64 n] M R := by
  unfold firstC firstT tup2 at h
  refine does_fn tab_ok Try.func9 rfl (by kernel_rfl) (by kernel_rfl) Try.ntmps9 Try.results9 rfl ?_
  simp (disch := omega)
  refine within_does k 1 3 _ _ ?_
  obtain ⟨b1, hb1⟩ : ∃ b, b = decide (1 ≤ k ∧ k ≤ 3) := ⟨_, rfl⟩
  obtain ⟨b2, hb2⟩ : ∃ b, b = decide (0 ≤ n ∧ n ≤ 12) := ⟨_, rfl⟩
  have hc : avC p k n 12 = if isPat p then (if b1 && b2 then 0 else 2) else 1 := by unfold avC; rw [hb1, hb2]
  rw [← hb1]
  cases b1
  · simp (disch := omega)
    refine avoidCode_does p false _ _ hl ?_
    have h0 : avC p k n 12 ≠ 0 := by rw [hc]; cases isPat p <;> simp
    rw [if_neg h0, if_neg h0, hc] at h
    cases hp : isPat p
    · rw [hp] at h
      simp (disch := omega)
      exact ret_of (h _ (Sub.refl _))
    · rw [hp] at h
      simp (disch := omega)
      exact ret_of (h _ (Sub.refl _))
  · simp (disch := omega)
    refine within_does n 0 12 _ _ ?_
    rw [← hb2]
    cases b2
    · simp (disch := omega)
      refine avoidCode_does p false _ _ hl ?_
      have h0 : avC p k n 12 ≠ 0 := by rw [hc]; cases isPat p <;> simp
      rw [if_neg h0, if_neg h0, hc] at h
      cases hp : isPat p
      · rw [hp] at h
        simp (disch := omega)
        exact ret_of (h _ (Sub.refl _))
      · rw [hp] at h
        simp (disch := omega)
        exact ret_of (h _ (Sub.refl _))
    · simp (disch := omega)
      refine avoidCode_does p true _ _ hl ?_
      cases hp : isPat p
      · have h0 : avC p k n 12 = 1 := by rw [hc, hp]; rfl
        rw [h0, if_neg (by decide), if_neg (by decide)] at h
        simp (disch := omega)
        exact ret_of (h _ (Sub.refl _))
      · have h0 : avC p k n 12 = 0 := by rw [hc, hp]; rfl
        rw [if_pos h0, if_pos h0] at h
        have hk := of_decide_eq_true hb1.symm
        have hn := of_decide_eq_true hb2.symm
        obtain ⟨k, rfl⟩ : ∃ i : Nat, k = i := ⟨k.toNat, by omega⟩
        obtain ⟨n, rfl⟩ : ∃ i : Nat, n = i := ⟨n.toNat, by omega⟩
        unfold avAll at h
        rw [Int.toNat_natCast, Int.toNat_natCast] at h
        simp (disch := omega)
        intro b9 hb9
        simp (disch := omega)
        refine avoiding_does (S := List UInt8) p k n hp (by omega) (by omega) _ keepS (fun s M2 => Sub M M2 ∧ M2 b9 = some (.cells true [str s] 1)) ?_ n [] [] _ _ (by simp) ⟨(Sub.refl _).put hb9 _, put_same _ _ _⟩ ?_
        · rintro s w K R' hw ⟨hK1, hK2⟩ hR
          simp (disch := omega)
          refine does_fn tab_ok Try.func40 rfl (by kernel_rfl) (by kernel_rfl) Try.ntmps40 Try.results40 rfl ?_
          simp (disch := omega) [hK2, set_is]
          exact ret_of (hR _ ⟨hK1.put hb9 _, put_same _ _ _⟩)
        · rintro M2 ⟨h1, h2⟩
          rw [runS_keep] at h2 ⊢
          cases he : emL (avL p k n [])
          · rw [he, if_neg (by decide)] at h h2
            simp (disch := omega) [get_of h2]
            exact ret_of (h _ h1)
          · rw [he, if_pos rfl] at h h2
            rw [emL_iff he] at h
            simp (disch := omega)
            exact ret_of (h _ h1)
theorem impl_CountAvoiding (p : List UInt8) (k n : Int) (M : Mem) (R : Value → Mem → Prop) (hl : p.length ≤ 1099511627776) (h : ∀ M', Sub M M' → R (tup2 (.int .i64 (cntT p k n)) (cntC p k n)) M') : Does Try.prog 12 [str p, .int .i64 k, .int .i64 n] M R := by
  unfold cntC cntT tup2 at h
  refine does_fn tab_ok Try.func12 rfl (by kernel_rfl) (by kernel_rfl) Try.ntmps12 Try.results12 rfl ?_
  simp (disch := omega)
  refine within_does k 1 3 _ _ ?_
  obtain ⟨b1, hb1⟩ : ∃ b, b = decide (1 ≤ k ∧ k ≤ 3) := ⟨_, rfl⟩
  obtain ⟨b2, hb2⟩ : ∃ b, b = decide (0 ≤ n ∧ n ≤ 9) := ⟨_, rfl⟩
  have hc : avC p k n 9 = if isPat p then (if b1 && b2 then 0 else 2) else 1 := by unfold avC; rw [hb1, hb2]
  rw [← hb1]
  cases b1
  · simp (disch := omega)
    refine avoidCode_does p false _ _ hl ?_
    have h0 : avC p k n 9 ≠ 0 := by rw [hc]; cases isPat p <;> simp
    rw [if_neg h0, hc] at h
    cases hp : isPat p
    · rw [hp] at h
      simp (disch := omega)
      exact ret_of (h _ (Sub.refl _))
    · rw [hp] at h
      simp (disch := omega)
      exact ret_of (h _ (Sub.refl _))
  · simp (disch := omega)
    refine within_does n 0 9 _ _ ?_
    rw [← hb2]
    cases b2
    · simp (disch := omega)
      refine avoidCode_does p false _ _ hl ?_
      have h0 : avC p k n 9 ≠ 0 := by rw [hc]; cases isPat p <;> simp
      rw [if_neg h0, hc] at h
      cases hp : isPat p
      · rw [hp] at h
        simp (disch := omega)
        exact ret_of (h _ (Sub.refl _))
      · rw [hp] at h
        simp (disch := omega)
        exact ret_of (h _ (Sub.refl _))
    · simp (disch := omega)
      refine avoidCode_does p true _ _ hl ?_
      cases hp : isPat p
      · have h0 : avC p k n 9 = 1 := by rw [hc, hp]; rfl
        rw [h0, if_neg (by decide)] at h
        simp (disch := omega)
        exact ret_of (h _ (Sub.refl _))
      · have h0 : avC p k n 9 = 0 := by rw [hc, hp]; rfl
        rw [h0, if_pos rfl] at h
        have hk := of_decide_eq_true hb1.symm
        have hn := of_decide_eq_true hb2.symm
        obtain ⟨k, rfl⟩ : ∃ i : Nat, k = i := ⟨k.toNat, by omega⟩
        obtain ⟨n, rfl⟩ : ∃ i : Nat, n = i := ⟨n.toNat, by omega⟩
        unfold avAll at h
        rw [Int.toNat_natCast, Int.toNat_natCast] at h
        have hsm := avL_small (p := p) (k := k) (n := n) (by omega) (by omega) []
        simp (disch := omega)
        intro b9 hb9
        simp (disch := omega)
        refine avoiding_does (S := Nat) p k n hp (by omega) (by omega) _ cntS (fun s M2 => Sub M M2 ∧ M2 b9 = some (.cells true [.int .i64 (IntKind.i64.wrap s)] 1)) ?_ n [] 0 _ _ (by simp) ⟨(Sub.refl _).put hb9 _, put_same _ _ _⟩ ?_
        · rintro s w K R' hw ⟨hK1, hK2⟩ hR
          simp (disch := omega)
          refine does_fn tab_ok Try.func43 rfl (by kernel_rfl) (by kernel_rfl) Try.ntmps43 Try.results43 rfl ?_
          simp (disch := omega) [hK2, get_of hK2, set_is, wrap_succ]
          exact ret_of (hR _ ⟨hK1.put hb9 _, put_same _ _ _⟩)
        · rintro M2 ⟨h1, h2⟩
          rw [runS_cnt, Nat.zero_add] at h2
          rw [runS_cnt]
          generalize (avL p k n []).length = c at *
          simp (disch := omega) [get_of h2]
          exact ret_of (h _ h1)
theorem l10Count_does (p : List UInt8) (k : Nat) (hp : isPat p = true) (hk : k ≤ 3) : ∀ (d : Nat) (w : List UInt8) (M : Mem) (R : Value → Mem → Prop), w.length + d ≤ 60 → d ≤ 9 → R (.int .i64 ((avL p k d w).length : Nat)) M → Does Try.prog 44 [str w, str p, .int .i64 k, .int .i64 d] M R
  | 0, w, M, R, hd, hd9, h => by
    unfold avL at h
    refine does_fn tab_ok Try.func44 rfl (by kernel_rfl) (by kernel_rfl) Try.ntmps44 Try.results44 rfl ?_
    simp (disch := omega)
    exact ret_of h
  | d + 1, w, M, R, hd, hd9, h => by
    refine does_fn tab_ok Try.func44 rfl (by kernel_rfl) (by kernel_rfl) Try.ntmps44 Try.results44 rfl ?_
    have hb : (((d : Int) + 1) == 0) = false := beq_eq_false_iff_ne.2 (by omega)
    simp (disch := omega) [hb]
    refine loop_to tab_ok [9, 10, 11, 14, 15, 16, 17, 18, 19, 20, 21, 22, 23, 24, 25, 26, 27, 28, 29, 30, 31, 32, 33, 34] (fun i : Nat => [(10, .int .i64 i), (9, .int .i64 ((avN p k d w i).length : Nat))]) (fun i M' => M = M' ∧ i ≤ k) (fun i => k - i) 0 (by kernel_rfl) (by simp (disch := omega) [avN_zero]) ⟨rfl, by omega⟩ ?_
    rintro i M' g ⟨rfl, hi⟩
    have hs := congrArg List.length (avN_succ p k d w i)
    rw [List.length_append] at hs
    have hall : (avN p k d w i).length ≤ (avL p k (d + 1) w).length := by
      obtain ⟨rest, hr⟩ := avL_split p k d w hi
      rw [hr, List.length_append]; omega
    have hsm := avL_small (p := p) hk hd9 w
    by_cases hlt : i < k
    · have hall2 : (avN p k d w (i + 1)).length ≤ (avL p k (d + 1) w).length := by
        obtain ⟨rest, hr⟩ := avL_split p k d w (show i + 1 ≤ k by omega)
        rw [hr, List.length_append]; omega
      have hsm2 := avL_small (p := p) (k := k) (n := d) hk (by omega) (w ++ [ltr i])
      simp (disch := omega)
      refine l01Letter_does i _ _ (by omega) ?_
      simp (disch := omega)
      have hl' : (w ++ [ltr i]).length = w.length + 1 := by simp
      refine l10Ends_does _ p _ _ (by omega) hp ?_
      unfold avS at hs
      cases he : endsP (w ++ [ltr i]) p
      · rw [he, if_neg (by decide)] at hs
        simp (disch := omega)
        refine l10Count_does p k hp hk d _ _ _ (by omega) (by omega) ?_
        generalize (avL p k d (w ++ [ltr i])).length = c at *
        generalize (avN p k d w i).length = a at *
        simp (disch := omega)
        exact Rnd.mk' (i + 1) (by omega) (by (repeat (first | exact km | refine kp rfl ?_ | refine km' rfl ?_))) (by simp (disch := omega); omega) ⟨rfl, by omega⟩
      · rw [he, if_pos rfl, List.length_nil, Nat.add_zero] at hs
        simp (disch := omega)
        exact Rnd.mk' (i + 1) (by omega) (by (repeat (first | exact km | refine kp rfl ?_ | refine km' rfl ?_))) (by simp (disch := omega) [hs]) ⟨rfl, by omega⟩
    · have hi' : i = k := by omega
      subst hi'
      rw [avL_all] at h
      simp (disch := omega)
      exact ret_of h
theorem spec_FirstAvoiding (p : List UInt8) (k n : Int) (M : Mem) (R : Value → Mem → Prop) (hl : p.length ≤ 1099511627776) (h : R (tup2 (str (firstT p k n)) (firstC p k n)) M) : Does Try.prog 10 [str p, .int .i64 k, .int .i64 n] M R := by
  unfold firstC firstT tup2 at h
  refine does_fn tab_ok Try.func10 rfl (by kernel_rfl) (by kernel_rfl) Try.ntmps10 Try.results10 rfl ?_
  simp (disch := omega)
  refine l10Sizes_does p k 3 n 12 _ _ hl ?_
  rw [show (if isPat p then (if decide (1 ≤ k ∧ k ≤ 3) && decide (0 ≤ n ∧ n ≤ 12) then (0 : Int) else 2) else 1) = avC p k n 12 from rfl]
  by_cases h0 : avC p k n 12 = 0
  · obtain ⟨hp, hk, hn⟩ := avC_zero h0
    rw [if_pos h0, if_pos h0] at h
    obtain ⟨k, rfl⟩ : ∃ i : Nat, k = i := ⟨k.toNat, by omega⟩
    obtain ⟨n, rfl⟩ : ∃ i : Nat, n = i := ⟨n.toNat, by omega⟩
    unfold avAll at h
    rw [Int.toNat_natCast, Int.toNat_natCast] at h
    simp (disch := omega) [h0]
    refine l10First_does p k hp (by omega) n [] _ _ (by simp; omega) ?_
    unfold firstV
    cases he : emL (avL p k n [])
    · rw [he, if_neg (by decide)] at h
      simp (disch := omega)
      exact ret_of h
    · rw [he, if_pos rfl] at h
      rw [emL_iff he] at h
      simp (disch := omega)
      exact ret_of h
  · rw [if_neg h0, if_neg h0] at h
    generalize avC p k n 12 = c at *
    simp (disch := omega) [h0]
    exact ret_of h
theorem spec_CountAvoiding (p : List UInt8) (k n : Int) (M : Mem) (R : Value → Mem → Prop) (hl : p.length ≤ 1099511627776) (h : R (tup2 (.int .i64 (cntT p k n)) (cntC p k n)) M) : Does Try.prog 13 [str p, .int .i64 k, .int .i64 n] M R := by
  unfold cntC cntT tup2 at h
  refine does_fn tab_ok Try.func13 rfl (by kernel_rfl) (by kernel_rfl) Try.ntmps13 Try.results13 rfl ?_
  simp (disch := omega)
  refine l10Sizes_does p k 3 n 9 _ _ hl ?_
  rw [show (if isPat p then (if decide (1 ≤ k ∧ k ≤ 3) && decide (0 ≤ n ∧ n ≤ 9) then (0 : Int) else 2) else 1) = avC p k n 9 from rfl]
  by_cases h0 : avC p k n 9 = 0
  · obtain ⟨hp, hk, hn⟩ := avC_zero h0
    rw [if_pos h0, h0] at h
    obtain ⟨k, rfl⟩ : ∃ i : Nat, k = i := ⟨k.toNat, by omega⟩
    obtain ⟨n, rfl⟩ : ∃ i : Nat, n = i := ⟨n.toNat, by omega⟩
    unfold avAll at h
    rw [Int.toNat_natCast, Int.toNat_natCast] at h
    simp (disch := omega) [h0]
    refine l10Count_does p k hp (by omega) n [] _ _ (by simp; omega) (by omega) ?_
    simp (disch := omega)
    exact ret_of h
  · rw [if_neg h0] at h
    generalize avC p k n 9 = c at *
    simp (disch := omega) [h0]
    exact ret_of h
def zimC (n : Int) : Int := if decide (1 ≤ n ∧ n ≤ 5) then 0 else 2
def zimT (n : Int) : List UInt8 := if decide (1 ≤ n ∧ n ≤ 5) then zimF n.toNat else []
theorem impl_ZiminWord (n : Int) (M : Mem) (R : Value → Mem → Prop) (h : R (tup2 (str (zimT n)) (zimC n)) M) : Does Try.prog 18 [.int .i64 n] M R := by
  unfold zimC zimT tup2 at h
  refine does_fn tab_ok Try.func18 rfl (by kernel_rfl) (by kernel_rfl) Try.ntmps18 Try.results18 rfl ?_
  simp (disch := omega)
  refine isLetters_does n _ _ ?_
  cases hb : decide (1 ≤ n ∧ n ≤ 5)
  · rw [hb] at h
    simp (disch := omega)
    exact ret_of h
  · rw [hb, if_pos rfl, if_pos rfl] at h
    have hn := of_decide_eq_true hb
    obtain ⟨n, rfl⟩ : ∃ i : Nat, n = i := ⟨n.toNat, by omega⟩
    rw [Int.toNat_natCast] at h
    simp (disch := omega)
    refine zimin_does n _ _ (by omega) ?_
    simp (disch := omega)
    exact ret_of h
theorem spec_ZiminWord (n : Int) (M : Mem) (R : Value → Mem → Prop) (h : R (tup2 (str (zimT n)) (zimC n)) M) : Does Try.prog 19 [.int .i64 n] M R := by
  unfold zimC zimT tup2 at h
  refine does_fn tab_ok Try.func19 rfl (by kernel_rfl) (by kernel_rfl) Try.ntmps19 Try.results19 rfl ?_
  simp (disch := omega)
  refine l01In_does _ _ _ _ _ ?_
  cases hb : decide (1 ≤ n ∧ n ≤ 5)
  · rw [hb] at h
    simp (disch := omega)
    exact ret_of h
  · rw [hb, if_pos rfl, if_pos rfl] at h
    have hn := of_decide_eq_true hb
    obtain ⟨n, rfl⟩ : ∃ i : Nat, n = i + 1 := ⟨n.toNat - 1, by omega⟩
    rw [show ((n : Int) + 1).toNat = n + 1 by omega] at h
    simp (disch := omega)
    refine l10Zimin_does n _ _ (by omega) ?_
    simp (disch := omega)
    exact ret_of h
theorem spec_IsPattern (p : List UInt8) (M : Mem) (R : Value → Mem → Prop) (hl : p.length ≤ 1099511627776) (h : R (.bool (isPat p)) M) : Does Try.prog 22 [str p] M R := by
  refine does_fn tab_ok Try.func22 rfl (by kernel_rfl) (by kernel_rfl) Try.ntmps22 Try.results22 rfl ?_
  simp (disch := omega)
  refine l10Is_does p _ _ hl ?_
  simp (disch := omega)
  exact ret_of h
end Go.Proofs.Yticejlplbibegaa

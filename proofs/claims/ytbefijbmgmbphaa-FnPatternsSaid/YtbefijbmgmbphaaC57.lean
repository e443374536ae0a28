/- Contracts: words that have patterns, of the reference; words that fit; factors at places; square free words. -/
import Derived.Test.YtbefijbmgmbphaaC47
import Derived.Test.YtbefijbmgmbphaaC42
import Derived.Test.YtbefijbmgmbphaaC26
namespace Go.Proofs.Ytbefijbmgmbphaa
open Go
set_option linter.unusedSimpArgs false
set_option linter.unusedVariables false

theorem isPat_len {p : List UInt8} (h : isPat p = true) : 1 ≤ p.length ∧ p.length ≤ 8 := ⟨(isPat_in h).1, (isPat_in h).2.1⟩
theorem pat_lt {p : List UInt8} (h : isPat p = true) : ∀ c ∈ p, vIdx c < 3 := fun c hc => by
  have := isV_range (List.all_eq_true.1 (isPat_in h).2.2 c hc)
  unfold vIdx; omega
theorem words9_does (v v' : Value) (xs ys : List (List UInt8)) (M : Mem) (R : Value → Mem → Prop) (hx : Rd M v (strs xs)) (hy : Rd M v' (strs ys)) (hl : xs.length ≤ 1099511627776) (hl' : ys.length ≤ 1099511627776)
    (h : R (.bool (xs == ys)) M) : Does Try.prog 37 [v, v'] M R := by
  refine does_fn tab_ok Try.func37 rfl (by kernel_rfl) (by kernel_rfl) Try.ntmps37 Try.results37 rfl ?_
  obtain ⟨a, c, rfl, ha⟩ := hx.opened
  obtain ⟨a', c', rfl, ha'⟩ := hy.opened
  rw [strs_length] at ha ha' ⊢
  rw [strs_length]
  by_cases hne : xs.length = ys.length
  · simp (disch := omega) [hne]
    refine loop_to tab_ok [4, 5, 11, 12, 13, 14, 15, 16, 17, 18, 19, 20, 21, 22, 23, 24, 25] (fun i : Nat => [(5, .int .i64 i)]) (fun i M' => M' = M ∧ i ≤ xs.length ∧ xs.take i = ys.take i) (fun i => xs.length - i) 0 (by kernel_rfl) (by simp (disch := omega)) ⟨rfl, by omega, rfl⟩ ?_
    rintro i M' g ⟨rfl, hi, he⟩
    by_cases hlt : i < xs.length
    · rcases ha with h0 | ⟨b, o, rfl, hs⟩
      · omega
      rcases ha' with h0 | ⟨b', o', rfl, hs'⟩
      · omega
      have hlt' : i < ys.length := by omega
      have hg := hs i hlt
      have hg' := hs' i hlt'
      have hx : xs[i]? = some xs[i] := List.getElem?_eq_getElem hlt
      have hy : ys[i]? = some ys[i] := List.getElem?_eq_getElem hlt'
      simp (disch := omega) [hne]
      refine draw_to tab_ok (by kernel_rfl) (by kernel_rfl) (by rfl) ?_
      simp (disch := omega) [hg, hg', hx, hy]
      by_cases hq : xs[i] = ys[i]
      · have hq' : (xs[i] == ys[i]) = true := by rw [hq]; exact beq_self_eq_true _
        simp (disch := omega) [hq']
        refine Rnd.mk' (i + 1) (by omega) (by (repeat (first | exact km | refine kp rfl ?_ | refine km' rfl ?_))) (by simp (disch := omega)) ⟨rfl, by omega, ?_⟩
        rw [take_snoc xs hlt, take_snoc ys hlt', he, hq]
      · have hq' : (xs[i] == ys[i]) = false := beq_eq_false_iff_ne.2 hq
        simp (disch := omega) [hq']
        refine ret_of ?_
        have : (xs == ys) = false := by
          rw [beq_eq_false_iff_ne]; rintro rfl; exact hq rfl
        rw [this] at h; exact h
    · have hi' : i = xs.length := by omega
      subst hi'
      simp (disch := omega) [hne]
      refine ret_of ?_
      have : xs = ys := take_beq hne he
      subst this
      simpa using h
  · simp (disch := omega) [hne]
    refine ret_of ?_
    have : (xs == ys) = false := by
      rw [beq_eq_false_iff_ne]; rintro rfl; exact hne rfl
    rw [this] at h; exact h
theorem l10Has_does (w p : List UInt8) (M : Mem) (R : Value → Mem → Prop) (hl : w.length ≤ 60) (hp : isPat p = true) (h : R (.bool (hasS w p)) M) : Does Try.prog 111 [str w, str p] M R := by
  have hpl : 1 ≤ p.length ∧ p.length ≤ 8 := isPat_len hp
  refine does_fn tab_ok Try.func111 rfl (by kernel_rfl) (by kernel_rfl) Try.ntmps111 Try.results111 rfl ?_
  simp (disch := omega)
  refine loop_to tab_ok [4, 5, 8, 9, 10, 11, 12, 13, 14, 15, 16, 17, 18] (fun i : Nat => [(5, .int .i64 i)]) (fun i M' => M = M' ∧ p.length ≤ i ∧ i ≤ max (w.length + 1) p.length ∧ hasST w p (i - p.length) = false) (fun i => w.length + 1 - i) p.length (by kernel_rfl) (by simp (disch := omega)) ⟨rfl, by omega, by omega, by rw [Nat.sub_self]; rfl⟩ ?_
  rintro i M' g ⟨rfl, hi1, hi2, hno⟩
  by_cases hlt : i ≤ w.length
  · simp (disch := omega)
    refine l10Ends_does (w.take i) p _ _ (by rw [List.length_take]; omega) hp ?_
    have e1 : i + 1 - p.length = i - p.length + 1 := by omega
    have e2 : p.length + (i - p.length) = i := by omega
    have hst := hasST_succ w p (i - p.length)
    rw [e2] at hst
    cases he : endsP (w.take i) p
    · simp (disch := omega)
      rw [he] at hst
      refine Rnd.mk' (i + 1) (by omega) (by (repeat (first | exact km | refine kp rfl ?_ | refine km' rfl ?_))) (by simp (disch := omega)) ⟨rfl, by omega, by omega, ?_⟩
      rw [e1, hst, hno]; rfl
    · simp (disch := omega)
      have : hasS w p = true := hasST_yes (n := i - p.length) (by omega) (by rw [e2]; exact he)
      rw [this] at h
      exact ret_of h
  · simp (disch := omega)
    have : hasS w p = false := by
      unfold hasS
      by_cases hq : p.length ≤ w.length
      · rw [show w.length + 1 - p.length = i - p.length by omega]; exact hno
      · rw [show w.length + 1 - p.length = 0 by omega]; rfl
    rw [this] at h
    exact ret_of h
theorem spec_HasPattern (w p : List UInt8) (M : Mem) (R : Value → Mem → Prop) (hw : w.length ≤ 1099511627776) (hp : p.length ≤ 1099511627776) (h : R (tup2 (.bool ((isWord w && isPat p) && hasB w p)) (patC w p)) M) : Does Try.prog 38 [str w, str p] M R := by
  unfold patC tup2 at h
  refine does_fn tab_ok Try.func38 rfl (by kernel_rfl) (by kernel_rfl) Try.ntmps38 Try.results38 rfl ?_
  simp (disch := omega)
  refine l10Code_does w p _ _ hw hp ?_
  cases hb : isWord w && isPat p
  · rw [hb] at h
    simp (disch := omega)
    exact ret_of h
  · rw [hb] at h
    rw [Bool.and_eq_true] at hb
    have h60 := isWord_len hb.1
    rw [if_pos rfl, Bool.true_and, ← has_same (pat_lt hb.2) (by have := isPat_len hb.2; intro e; rw [e] at this; simp at this)] at h
    simp (disch := omega)
    refine l10Has_does w p _ _ h60 hb.2 ?_
    simp (disch := omega)
    exact ret_of h
theorem impl_FitsPattern (w p : List UInt8) (M : Mem) (R : Value → Mem → Prop) (hw : w.length ≤ 1099511627776) (hp : p.length ≤ 1099511627776) (h : R (tup2 (.bool ((isWord w && isPat p) && fitsB w p)) (patC w p)) M) : Does Try.prog 40 [str w, str p] M R := by
  unfold patC tup2 at h
  refine does_fn tab_ok Try.func40 rfl (by kernel_rfl) (by kernel_rfl) Try.ntmps40 Try.results40 rfl ?_
  simp (disch := omega)
  refine patternCode_does w p _ _ hw hp ?_
  cases hb : isWord w && isPat p
  · rw [hb] at h
    simp (disch := omega)
    exact ret_of h
  · rw [hb] at h
    rw [Bool.and_eq_true] at hb
    have h60 := isWord_len hb.1
    rw [if_pos rfl, Bool.true_and] at h
    simp (disch := omega)
    refine fits_does w p _ _ h60 hb.2 ?_
    simp (disch := omega)
    exact ret_of h
theorem spec_FitsPattern (w p : List UInt8) (M : Mem) (R : Value → Mem → Prop) (hw : w.length ≤ 1099511627776) (hp : p.length ≤ 1099511627776) (h : R (tup2 (.bool ((isWord w && isPat p) && fitsB w p)) (patC w p)) M) : Does Try.prog 41 [str w, str p] M R := by
  unfold patC tup2 at h
  refine does_fn tab_ok Try.func41 rfl (by kernel_rfl) (by kernel_rfl) Try.ntmps41 Try.results41 rfl ?_
  simp (disch := omega)
  refine l10Code_does w p _ _ hw hp ?_
  cases hb : isWord w && isPat p
  · rw [hb] at h
    simp (disch := omega)
    exact ret_of h
  · rw [hb] at h
    rw [Bool.and_eq_true] at hb
    have h60 := isWord_len hb.1
    rw [if_pos rfl, Bool.true_and] at h
    simp (disch := omega)
    refine l10Fits_does w p _ _ h60 hb.2 ?_
    simp (disch := omega)
    exact ret_of h
theorem impl_IsSquareFree (w : List UInt8) (M : Mem) (R : Value → Mem → Prop) (hl : w.length ≤ 1099511627776) (h : ∀ M', Sub M M' → R (tup2 (.bool (isWord w && !sqIn w)) (wcode w)) M') : Does Try.prog 42 [str w] M R := by
  unfold tup2 wcode at h
  refine does_fn tab_ok Try.func42 rfl (by kernel_rfl) (by kernel_rfl) Try.ntmps42 Try.results42 rfl ?_
  simp (disch := omega)
  intro b1 hb1
  simp (disch := omega)
  have hs1 : Sub M (M.put b1 (.cells true [str w] 1)) := (Sub.refl _).put hb1 _
  refine wordCode_does _ _ [w] true (fun _ => True) _ _ (Rd.new rfl (Nat.le_refl 1)) (fine1 hl) (by simp) trivial stab_true (always_tells _) ?_
  rw [codeOf1]
  cases hw : isWord w
  · rw [hw] at h
    simp (disch := omega)
    exact ret_of (h _ hs1)
  · rw [hw] at h
    simp (disch := omega)
    refine isSquareFree_does w _ _ (isWord_len hw) ?_
    simp (disch := omega)
    exact ret_of (h _ hs1)
end Go.Proofs.Ytbefijbmgmbphaa

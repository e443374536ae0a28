/- Contracts: words that have patterns, of the reference; words that fit; factors at places; square free words. -/
import Derived.Test.YticejlplbibegaaC47
import Derived.Test.YticejlplbibegaaC42
import Derived.Test.YticejlplbibegaaC26
namespace Go.Proofs.Yticejlplbibegaa
open Go
set_option linter.unusedSimpArgs false
set_option linter.unusedVariables false

theorem isPat_len {p : List UInt8} (h : isPat p = true) : 1 ≤ p.length ∧ p.length ≤ 8 := ⟨(isPat_in h).1, (isPat_in h).2.1⟩
theorem pat_lt {p : List UInt8} (h : isPat p = true) : ∀ c ∈ p, vIdx c < 3 := fun c hc => by
  have := isV_range (List.all_eq_true.1 (isPat_in h).2.2 c hc)
  unfold vIdx; omega
theorem l10Has_does (w p : List UInt8) (M : Mem) (R : Value → Mem → Prop) (hl : w.length ≤ 60) (hp : isPat p = true) (h : R (.bool (hasS w p)) M) : Does Try.prog 25 [str w, str p] M R := by
  have hpl : 1 ≤ p.length ∧ p.length ≤ 8 := isPat_len hp
  refine does_fn tab_ok Try.func25 rfl (by kernel_rfl) (by kernel_rfl) Try.ntmps25 Try.results25 rfl ?_
  simp (disch := omega)
  refine loop_to tab_ok [4, 5, 8, 9, 10, 11, 12, 13, 14, 15, 16, 17, 18] (fun i : Nat => [(5, .int .i64 i)]) (fun i M' => M = M' ∧ p.length ≤ i ∧ i ≤ max (w.length + 1) p.length ∧ hasST w p (i - p.length) = false) (fun i => w.length + 1 - i) p.length (by kernel_rfl) (by simp (disch := omega)) ⟨rfl, by omega, by omega, by rw [Nat.sub_self]; rfl⟩ ?_
  rintro i M' g ⟨rfl, hi1, hi2, hno⟩
  by_cases hlt : i ≤ w.length
  · simp (disch := omega)
    refine l10Ends_does (w.take i) p _ _ (by rw [List.length_take]; omega) hp ?_
    have e1 : i + 1 - p.length = i - p.length + 1 := by omega
    have e2 : p.length + (i - p.length) = i := by omega
    have hst := hasST_succ w p (i - p.length)
    rw [e2] at hst
    cases he : endsP (w.take i) p
    · simp (disch := omega)
      rw [he] at hst
      refine Rnd.mk' (i + 1) (by omega) (by (repeat (first | exact km | refine kp rfl ?_ | refine km' rfl ?_))) (by simp (disch := omega)) ⟨rfl, by omega, by omega, ?_⟩
      rw [e1, hst, hno]; rfl
    · simp (disch := omega)
      have : hasS w p = true := hasST_yes (n := i - p.length) (by omega) (by rw [e2]; exact he)
      rw [this] at h
      exact ret_of h
  · simp (disch := omega)
    have : hasS w p = false := by
      unfold hasS
      by_cases hq : p.length ≤ w.length
      · rw [show w.length + 1 - p.length = i - p.length by omega]; exact hno
      · rw [show w.length + 1 - p.length = 0 by omega]; rfl
    rw [this] at h
    exact ret_of h
end Go.Proofs.Yticejlplbibegaa

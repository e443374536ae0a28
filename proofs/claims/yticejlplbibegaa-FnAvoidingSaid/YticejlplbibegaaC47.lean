/- Contracts: words that have patterns, of the program. -/
import Derived.Test.YticejlplbibegaaC41
import Derived.Test.YticejlplbibegaaM13
namespace Go.Proofs.Yticejlplbibegaa
open Go
set_option linter.unusedSimpArgs false
set_option linter.unusedVariables false

theorem pat_idx {p : List UInt8} (h : isPat p = true) : (∀ c ∈ p, vIdx c < 3) ∧ p ≠ [] := by
  obtain ⟨hp1, hp8, hpv⟩ := isPat_in h
  refine ⟨fun c hc => ?_, by intro e; rw [e] at hp1; simp at hp1⟩
  have := isV_range (List.all_eq_true.1 hpv c hc)
  unfold vIdx; omega
theorem begins_does (w p : List UInt8) (M : Mem) (R : Value → Mem → Prop) (hl : w.length ≤ 60) (hp : isPat p = true) (h : R (.bool (begB w p)) M) : Does Try.prog 58 [str w, str p] M R := by
  obtain ⟨hp1, hp8, hpv⟩ := isPat_in hp
  refine does_fn tab_ok Try.func58 rfl (by kernel_rfl) (by kernel_rfl) Try.ntmps58 Try.results58 rfl ?_
  simp (disch := omega)
  refine match_does w hl (fun _ => true) _ rfl (fun _ => True) stab_true ?_ p V0 0 _ _ hpv hp8 small0 (by omega) trivial ?_
  · intro V t K R' hV _ hR
    have h3 := strs_take3 hV.1
    have h3' := hV.1
    simp (disch := omega)
    refine does_fn tab_ok Try.func70 rfl (by kernel_rfl) (by kernel_rfl) Try.ntmps70 Try.results70 rfl ?_
    simp (disch := omega) [h3, h3']
    intro b3 hb3
    simp (disch := omega)
    exact ret_sub ((Sub.refl K).put hb3 _) hR
  · have e : (sols w p V0 0).any (fun _ => true) = begB w p := rfl
    rw [e]
    simp (disch := omega)
    exact ret_of h
theorem has_does_ (w p : List UInt8) (M : Mem) (R : Value → Mem → Prop) (hl : w.length ≤ 60) (hp : isPat p = true) (h : R (.bool (hasB w p)) M) : Does Try.prog 31 [str w, str p] M R := by
  refine does_fn tab_ok Try.func31 rfl (by kernel_rfl) (by kernel_rfl) Try.ntmps31 Try.results31 rfl ?_
  simp (disch := omega)
  refine loop_to tab_ok [4, 5, 8, 9, 10, 11, 12, 13, 14, 15, 16] (fun i : Nat => [(8, .int .i64 i)]) (fun i M' => M' = M ∧ i ≤ w.length ∧ hasTo w p i = false) (fun i => w.length - i) 0 (by kernel_rfl) (by simp (disch := omega)) ⟨rfl, by omega, rfl⟩ ?_
  rintro i M' g ⟨rfl, hi, hno⟩
  by_cases hlt : i < w.length
  · have hs := hasTo_succ w p i
    simp (disch := omega)
    refine begins_does _ _ _ _ (by rw [List.length_drop]; omega) hp ?_
    cases hf : begB (w.drop i) p
    · rw [hno, hf] at hs
      simp (disch := omega)
      exact Rnd.mk' (i + 1) (by omega) (by (repeat (first | exact km | refine kp rfl ?_ | refine km' rfl ?_))) (by simp (disch := omega)) ⟨rfl, by omega, hs⟩
    · have e : hasB w p = true := hasTo_yes hlt hf
      rw [e] at h
      simp (disch := omega)
      exact ret_of h
  · have hi' : i = w.length := by omega
    subst hi'
    have e : hasB w p = false := hno
    rw [e] at h
    simp (disch := omega)
    exact ret_of h
def patC (w p : List UInt8) : Int := if isWord w && isPat p then 0 else 1
theorem impl_HasPattern (w p : List UInt8) (M : Mem) (R : Value → Mem → Prop) (hw : w.length ≤ 1099511627776) (hp : p.length ≤ 1099511627776) (h : R (tup2 (.bool ((isWord w && isPat p) && hasB w p)) (patC w p)) M) : Does Try.prog 23 [str w, str p] M R := by
  unfold patC tup2 at h
  refine does_fn tab_ok Try.func23 rfl (by kernel_rfl) (by kernel_rfl) Try.ntmps23 Try.results23 rfl ?_
  simp (disch := omega)
  refine patternCode_does w p _ _ hw hp ?_
  cases hb : isWord w && isPat p
  · rw [hb] at h
    simp (disch := omega)
    exact ret_of h
  · rw [hb] at h
    rw [Bool.and_eq_true] at hb
    have h60 := isWord_len hb.1
    rw [if_pos rfl, Bool.true_and] at h
    simp (disch := omega)
    refine has_does_ w p _ _ h60 hb.2 ?_
    simp (disch := omega)
    exact ret_of h
end Go.Proofs.Yticejlplbibegaa

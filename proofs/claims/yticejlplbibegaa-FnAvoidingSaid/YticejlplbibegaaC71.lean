/- Contracts: Zimin's words, of the program. -/
import Derived.Test.YticejlplbibegaaC57
namespace Go.Proofs.Yticejlplbibegaa
open Go
set_option linter.unusedSimpArgs false
set_option linter.unusedVariables false

def zimF : Nat → List UInt8
  | 0 => []
  | n + 1 => zimF n ++ (ltr n :: zimF n)
theorem zimF_len : ∀ n, n ≤ 5 → (zimF n).length ≤ 31 := by decide
theorem zimF_succ (n : Nat) : zimF (n + 1) = zimF n ++ ([ltr n] ++ zimF n) := rfl
theorem zimin_does (n : Nat) (M : Mem) (R : Value → Mem → Prop) (hn : n ≤ 5) (h : R (str (zimF n)) M) : Does Try.prog 32 [.int .i64 n] M R := by
  refine does_fn tab_ok Try.func32 rfl (by kernel_rfl) (by kernel_rfl) Try.ntmps32 Try.results32 rfl ?_
  simp (disch := omega)
  refine loop_to tab_ok [3, 4, 6, 7, 8, 9, 10, 11, 12, 13, 14, 15] (fun i : Nat => [(6, .int .i64 i), (3, str (zimF i))]) (fun i M' => M = M' ∧ i ≤ n) (fun i => n - i) 0 (by kernel_rfl) (by simp (disch := omega) [zimF]) ⟨rfl, by omega⟩ ?_
  rintro i M' g ⟨rfl, hi⟩
  by_cases hlt : i < n
  · have hz := zimF_len i (by omega)
    have hs : zimF (i + 1) = zimF i ++ (ltr i :: zimF i) := rfl
    simp (disch := omega)
    refine letterN_does i _ _ (by omega) ?_
    generalize hc : ltr i = c at *
    generalize hzz : zimF i = z at *
    simp (disch := omega)
    refine Rnd.mk' (i + 1) (by omega) (by (repeat (first | exact km | refine kp rfl ?_ | refine km' rfl ?_))) (by simp (disch := omega) [hs]) ⟨rfl, by omega⟩
  · have hi' : i = n := by omega
    subst hi'
    simp (disch := omega)
    exact ret_of h
theorem l10Zimin_does : ∀ (n : Nat) (M : Mem) (R : Value → Mem → Prop), n ≤ 4 → R (str (zimF (n + 1))) M → Does Try.prog 26 [.int .i64 ((n : Int) + 1)] M R
  | 0, M, R, hn, h => by
    have e : zimF (0 + 1) = [97] := by decide
    rw [e] at h
    refine does_fn tab_ok Try.func26 rfl (by kernel_rfl) (by kernel_rfl) Try.ntmps26 Try.results26 rfl ?_
    simp (disch := omega)
    exact ret_of h
  | n + 1, M, R, hn, h => by
    have hs : zimF (n + 1 + 1) = zimF (n + 1) ++ (ltr (n + 1) :: zimF (n + 1)) := rfl
    have hz := zimF_len (n + 1) (by omega)
    rw [hs] at h
    have hne : ¬ (((n + 1 : Nat) : Int) + 1 = 1) := by omega
    have hne2 : ((((n + 1 : Nat) : Int) + 1) == 1) = false := beq_eq_false_iff_ne.2 hne
    have ih := fun (M : Mem) (R : Value → Mem → Prop) (h : R (str (zimF (n + 1))) M) => l10Zimin_does n M R (by omega) h
    obtain ⟨q, hq⟩ : ∃ q : Nat, q = n + 1 := ⟨_, rfl⟩
    rw [← hq] at h hz hne hne2 ih ⊢
    have hm1 : (q : Int) + 1 - 1 = (n : Int) + 1 := by omega
    have hm2 : (n : Int) + 1 = (q : Nat) := by omega
    refine does_fn tab_ok Try.func26 rfl (by kernel_rfl) (by kernel_rfl) Try.ntmps26 Try.results26 rfl ?_
    simp (disch := omega) [hne, hne2, hm1]
    refine ih _ _ ?_
    simp (disch := omega) [hm1, hm2]
    refine l01Letter_does q _ _ (by omega) ?_
    generalize hc : ltr q = c at *
    simp (disch := omega) [hm1, hm2]
    rw [← hm2]
    refine ih _ _ ?_
    generalize zimF q = z at *
    simp (disch := omega)
    exact ret_of (by simpa using h)
end Go.Proofs.Yticejlplbibegaa

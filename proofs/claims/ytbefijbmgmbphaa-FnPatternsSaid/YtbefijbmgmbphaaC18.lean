/- Contracts and laws: images and iterates. -/
import Derived.Test.YtbefijbmgmbphaaC17
namespace Go.Proofs.Ytbefijbmgmbphaa
open Go
set_option linter.unusedSimpArgs false
set_option linter.unusedVariables false

theorem codeI_one (ws : List (List UInt8)) (w : List UInt8) : codeI ws w 1 = codeM ws w := by
  unfold codeI codeM
  rw [show decide ((0 : Int) ≤ 1 ∧ (1 : Int) ≤ 100) = true by decide, Bool.and_true]
theorem codeI_in {ws : List (List UInt8)} {w : List UInt8} {k : Int} : codeI ws w k = if codeM ws w = 0 then (if 0 ≤ k ∧ k ≤ 100 then 0 else 2) else codeM ws w := by
  unfold codeI codeM
  cases h1 : (isMor ws && isWord w)
  · rfl
  · cases h2 : fewB w ws.length
    · rfl
    · by_cases h3 : 0 ≤ k ∧ k ≤ 100
      · simp [h3]
      · simp [h3]
theorem impl_ImageOf (v : Value) (ws : List (List UInt8)) (w : List UInt8) (M : Mem) (R : Value → Mem → Prop) (hv : Rd M v (strs ws)) (hf : Fine ws) (hn : ws.length ≤ 1099511627776) (hl : w.length ≤ 1099511627776) (h : R (tup2 (str (iterT ws w 1)) (iterC ws w 1)) M) : Does Try.prog 35 [.agg #[v], str w] M R := by
  refine does_fn tab_ok Try.func35 rfl (by kernel_rfl) (by kernel_rfl) Try.ntmps35 Try.results35 rfl ?_
  obtain ⟨a, c, rfl, ha⟩ := hv.opened
  rw [strs_length] at hv ⊢
  simp (disch := omega)
  intro b1 hb1
  simp (disch := omega)
  refine iterate_does _ ws w 1 _ _ (hv.put hb1 _) hf hn hl ?_
  simp (disch := omega) [tup2]
  exact ret_sub ((Sub.refl M).put hb1 _) h
end Go.Proofs.Ytbefijbmgmbphaa

/- Draws: two words that are often alike. -/
import Derived.Test.YthpcojnpiggaiaaGreatC66
import Derived.Test.YthpcojnpiggaiaaGreatC64
namespace Go.Proofs.YthpcojnpiggaiaaGreat
open Go
set_option linter.unusedSimpArgs false
set_option linter.unusedVariables false

theorem drawAA_does (v : Value) (xs : List UInt8) (M : Mem) (R : Value → Mem → Prop) (hv : Rd M v (bytesV xs)) (hl : xs.length ≤ 4096) (h : ∀ w u M', Sub M M' → (w : List UInt8).length ≤ 300 → (u : List UInt8).length ≤ 300 → R (.tuple #[str w, str u]) M') : Does Tryz.prog 6 [v] M R := by
  refine does_fn tab_ok Tryz.func6 rfl (by kernel_rfl) (by kernel_rfl) Tryz.ntmps6 Tryz.results6 rfl ?_
  simp (disch := omega)
  refine from_does v xs _ _ hv hl ?_
  intro s M0 hs0 s0 hsrc
  simp (disch := omega)
  refine drawW_does s _ _ hsrc ?_
  intro w M1 hw d1
  simp (disch := omega)
  refine l01Reversed_does w _ _ (by omega) ?_
  intro M2 s2
  have d2 := d1.trans (DrR.sub d1.src s2)
  have hrl : w.reverse.length = w.length := List.length_reverse
  generalize w.reverse = u0 at *
  simp (disch := omega)
  refine nx_does s 4 _ _ d2.src ?_
  intro x M3 _ hx d3
  have hx := hx (by omega)
  have d3 := d2.trans d3
  have fin : ∀ (u : List UInt8) (N : Mem), u.length ≤ 120 → DrR s M0 N → ∀ (w2 u2 : List UInt8) (N2 : Mem), w2.length ≤ w.length + 100 → u2.length ≤ u.length + 100 → DrR s N N2 → R (.tuple #[str w2, str u2]) N2 := fun u N hu d w2 u2 N2 h1 h2 d2 => h w2 u2 N2 ((d.trans d2).keep M hs0 s0) (by omega) (by omega)
  by_cases h0 : x = 0
  · simp (disch := omega) [h0]
    refine drawW_does s _ _ d3.src ?_
    intro u M4 hu d4
    have d4 := d3.trans d4
    simp (disch := omega)
    refine bad_does s w _ _ d4.src (by omega) ?_
    intro w2 M5 hw2 d5
    simp (disch := omega)
    refine bad_does s u _ _ d5.src (by omega) ?_
    intro u2 M6 hu2 d6
    simp (disch := omega)
    exact ret_of (fin u M4 (by omega) d4 w2 u2 _ hw2 hu2 (d5.trans d6))
  · by_cases h1 : x = 1
    · by_cases hw0 : 0 < w.length
      · have hw0I : (0 : Int) < w.length := by omega
        simp (disch := omega) [h1, hw0, hw0I]
        refine nx_does s w.length _ _ d3.src ?_
        intro y M4 _ hy d4
        have hy := hy (by omega)
        have d4 := d3.trans d4
        obtain ⟨k, rfl⟩ : ∃ k : Nat, y = k := ⟨y.toNat, by omega⟩
        simp (disch := omega)
        refine l01Turned_does w k _ _ (by omega) (by omega) ?_
        have htl : (w.drop k ++ w.take k).length = w.length := by rw [List.length_append, List.length_drop, List.length_take]; omega
        generalize w.drop k ++ w.take k = t at *
        simp (disch := omega)
        refine plays (lights [0, 1, 2] (.one 3 2 (.one 4 2 (lights [5, 6] .fin)))) tab_ok (by kernel_rfl) (by kernel_rfl) (by rfl) ?_
        simp (disch := omega)
        refine nx_does s 3 _ _ d4.src ?_
        intro z M5 _ hz d5
        have hz := hz (by omega)
        have d5 := d4.trans d5
        obtain ⟨i, rfl⟩ : ∃ i : Nat, z = i := ⟨z.toNat, by omega⟩
        simp (disch := omega)
        refine letterA_does i _ _ (by omega) ?_
        intro M6 s6
        have d6 := d5.trans (DrR.sub d5.src s6)
        have htt : t.tail.length ≤ 100 := by rw [List.length_tail]; omega
        simp (disch := omega)
        refine bad_does s w _ _ d6.src (by omega) ?_
        intro w2 M7 hw2 d7
        simp (disch := omega)
        refine bad_does s _ _ _ d7.src (by simp only [List.length_append, List.length_singleton]; omega) ?_
        intro u2 M8 hu2 d8
        simp (disch := omega)
        exact ret_of (fin _ M6 (by simp only [List.length_append, List.length_singleton]; omega) d6 w2 u2 _ hw2 hu2 (d7.trans d8))
      · have hw0I : ¬ (0 : Int) < w.length := by omega
        have hwn : w = [] := List.eq_nil_of_length_eq_zero (by omega)
        subst hwn
        simp (disch := omega) [h1]
        refine bad_does s [] _ _ d3.src (by simp) ?_
        intro w2 M5 hw2 d5
        simp (disch := omega)
        refine bad_does s u0 _ _ d5.src (by simp only [List.length_nil] at hrl; omega) ?_
        intro u2 M6 hu2 d6
        simp (disch := omega)
        exact ret_of (fin u0 M3 (by simp only [List.length_nil] at hrl; omega) d3 w2 u2 _ hw2 hu2 (d5.trans d6))
    · simp (disch := omega) [h0, h1]
      refine bad_does s w _ _ d3.src (by omega) ?_
      intro w2 M5 hw2 d5
      simp (disch := omega)
      refine bad_does s u0 _ _ d5.src (by omega) ?_
      intro u2 M6 hu2 d6
      simp (disch := omega)
      exact ret_of (fin u0 M3 (by omega) d3 w2 u2 _ hw2 hu2 (d5.trans d6))
end Go.Proofs.YthpcojnpiggaiaaGreat

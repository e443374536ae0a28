/- Contracts: words that have patterns, of the reference; words that fit; factors at places; square free words. -/
import Derived.Test.YticejlplbibegaaGreatDoorC47
import Derived.Test.YticejlplbibegaaGreatDoorC42
import Derived.Test.YticejlplbibegaaGreatDoorC26
namespace Go.Proofs.YticejlplbibegaaGreatDoor
open Go
set_option linter.unusedSimpArgs false
set_option linter.unusedVariables false

theorem isPat_len {p : List UInt8} (h : isPat p = true) : 1 ≤ p.length ∧ p.length ≤ 8 := ⟨(isPat_in h).1, (isPat_in h).2.1⟩
theorem pat_lt {p : List UInt8} (h : isPat p = true) : ∀ c ∈ p, vIdx c < 3 := fun c hc => by
  have := isV_range (List.all_eq_true.1 (isPat_in h).2.2 c hc)
  unfold vIdx; omega
theorem words9_does (v v' : Value) (xs ys : List (List UInt8)) (M : Mem) (R : Value → Mem → Prop) (hx : Rd M v (strs xs)) (hy : Rd M v' (strs ys)) (hl : xs.length ≤ 1099511627776) (hl' : ys.length ≤ 1099511627776)
    (h : R (.bool (xs == ys)) M) : Does Tryz.prog 16 [v, v'] M R := by
  refine does_fn tab_ok Tryz.func16 rfl (by kernel_rfl) (by kernel_rfl) Tryz.ntmps16 Tryz.results16 rfl ?_
  obtain ⟨a, c, rfl, ha⟩ := hx.opened
  obtain ⟨a', c', rfl, ha'⟩ := hy.opened
  rw [strs_length] at ha ha' ⊢
  rw [strs_length]
  by_cases hne : xs.length = ys.length
  · simp (disch := omega) [hne]
    refine loop_to tab_ok [4, 5, 11, 12, 13, 14, 15, 16, 17, 18, 19, 20, 21, 22, 23, 24, 25] (fun i : Nat => [(5, .int .i64 i)]) (fun i M' => M' = M ∧ i ≤ xs.length ∧ xs.take i = ys.take i) (fun i => xs.length - i) 0 (by kernel_rfl) (by simp (disch := omega)) ⟨rfl, by omega, rfl⟩ ?_
    rintro i M' g ⟨rfl, hi, he⟩
    by_cases hlt : i < xs.length
    · rcases ha with h0 | ⟨b, o, rfl, hs⟩
      · omega
      rcases ha' with h0 | ⟨b', o', rfl, hs'⟩
      · omega
      have hlt' : i < ys.length := by omega
      have hg := hs i hlt
      have hg' := hs' i hlt'
      have hx : xs[i]? = some xs[i] := List.getElem?_eq_getElem hlt
      have hy : ys[i]? = some ys[i] := List.getElem?_eq_getElem hlt'
      simp (disch := omega) [hne]
      refine draw_to tab_ok (by kernel_rfl) (by kernel_rfl) (by rfl) ?_
      simp (disch := omega) [hg, hg', hx, hy]
      by_cases hq : xs[i] = ys[i]
      · have hq' : (xs[i] == ys[i]) = true := by rw [hq]; exact beq_self_eq_true _
        simp (disch := omega) [hq']
        refine Rnd.mk' (i + 1) (by omega) (by (repeat (first | exact km | refine kp rfl ?_ | refine km' rfl ?_))) (by simp (disch := omega)) ⟨rfl, by omega, ?_⟩
        rw [take_snoc xs hlt, take_snoc ys hlt', he, hq]
      · have hq' : (xs[i] == ys[i]) = false := beq_eq_false_iff_ne.2 hq
        simp (disch := omega) [hq']
        refine ret_of ?_
        have : (xs == ys) = false := by
          rw [beq_eq_false_iff_ne]; rintro rfl; exact hq rfl
        rw [this] at h; exact h
    · have hi' : i = xs.length := by omega
      subst hi'
      simp (disch := omega) [hne]
      refine ret_of ?_
      have : xs = ys := take_beq hne he
      subst this
      simpa using h
  · simp (disch := omega) [hne]
    refine ret_of ?_
    have : (xs == ys) = false := by
      rw [beq_eq_false_iff_ne]; rintro rfl; exact hne rfl
    rw [this] at h; exact h
end Go.Proofs.YticejlplbibegaaGreatDoor

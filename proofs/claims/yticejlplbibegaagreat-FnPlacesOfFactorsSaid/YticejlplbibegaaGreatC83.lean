/- Draws: words and factors of them; words and letters of them; words and numbers. -/
import Derived.Test.YticejlplbibegaaGreatC66
import Derived.Test.YticejlplbibegaaGreatC74
namespace Go.Proofs.YticejlplbibegaaGreat
open Go
set_option linter.unusedSimpArgs false
set_option linter.unusedVariables false

theorem inside_does (v : Value) (xs : List UInt8) (M : Mem) (R : Value → Mem → Prop) (hv : Rd M v (bytesV xs)) (hl : xs.length ≤ 4096) (h : ∀ w u M', Sub M M' → (w : List UInt8).length ≤ 300 → (u : List UInt8).length ≤ 300 → R (.tuple #[str w, str u]) M') : Does Tryz.prog 106 [v] M R := by
  refine does_fn tab_ok Tryz.func106 rfl (by kernel_rfl) (by kernel_rfl) Tryz.ntmps106 Tryz.results106 rfl ?_
  simp (disch := omega)
  refine from_does v xs _ _ hv hl ?_
  intro s M0 hs0 s0 hsrc
  have fin : ∀ M', DrR s M0 M' → Sub M M' := fun M' d => d.keep M hs0 s0
  simp (disch := omega)
  refine drawW_does s _ _ hsrc ?_
  intro w M1 hw dd
  simp (disch := omega)
  refine nx_does s _ _ _ dd.src ?_
  intro i M2 _ hi e2
  have hi := hi (by omega)
  obtain ⟨i, rfl⟩ : ∃ j : Nat, i = j := ⟨i.toNat, by omega⟩
  have dd := dd.trans e2
  simp (disch := omega)
  intro b1 hb1
  simp (disch := omega)
  refine pickN_does s b1 3 [2, 4, 9] _ _ _ dd.src hb1 rfl rfl (by simp) (by simp) ?_
  intro z hz M3 e3
  have hz : 2 ≤ z ∧ z ≤ 9 := by
    simp only [List.mem_cons, List.not_mem_nil, or_false] at hz
    omega
  have dd := dd.trans e3
  simp (disch := omega)
  refine nx_does s z _ _ dd.src ?_
  intro y M4 _ hy e4
  have hy := hy (by omega)
  have dd := dd.trans e4
  have hm2 : (List.drop i (List.take (if (w.length : Int) < (i : Int) + y then (w.length : Int) else (i : Int) + y).toNat w)).length ≤ 100 := by rw [List.length_drop, List.length_take]; omega
  simp (disch := omega)
  refine nx_does s 8 _ _ dd.src ?_
  intro x M5 _ hx e5
  have dd := dd.trans e5
  generalize List.drop i (List.take (if (w.length : Int) < (i : Int) + y then (w.length : Int) else (i : Int) + y).toNat w) = u at *
  by_cases x0 : x = 0
  · simp (disch := omega) [x0]
    refine small_does s _ _ dd.src ?_
    intro u2 M6 hu2 e6
    have dd := dd.trans e6
    simp (disch := omega)
    refine bad_does s w _ _ dd.src (by omega) ?_
    intro w9 M7 hw9 e7
    have dd := dd.trans e7
    simp (disch := omega)
    refine bad_does s u2 _ _ dd.src (by omega) ?_
    intro u9 M8 hu9 e8
    simp (disch := omega)
    exact ret_of (h w9 u9 _ (fin _ (dd.trans e8)) (by omega) (by omega))
  · simp (disch := omega) [x0]
    refine bad_does s w _ _ dd.src (by omega) ?_
    intro w9 M7 hw9 e7
    have dd := dd.trans e7
    simp (disch := omega)
    refine bad_does s u _ _ dd.src (by omega) ?_
    intro u9 M8 hu9 e8
    simp (disch := omega)
    exact ret_of (h w9 u9 _ (fin _ (dd.trans e8)) (by omega) (by omega))
theorem drawPl_does (v : Value) (xs : List UInt8) (M : Mem) (R : Value → Mem → Prop) (hv : Rd M v (bytesV xs)) (hl : xs.length ≤ 4096) (h : ∀ w u M', Sub M M' → (w : List UInt8).length ≤ 300 → (u : List UInt8).length ≤ 300 → R (.tuple #[str w, str u]) M') : Does Tryz.prog 30 [v] M R := by
  refine does_fn tab_ok Tryz.func30 rfl (by kernel_rfl) (by kernel_rfl) Tryz.ntmps30 Tryz.results30 rfl ?_
  simp (disch := omega)
  refine inside_does v xs _ _ hv hl ?_
  intro w u M' s1 hw hu
  simp (disch := omega)
  exact ret_of (h w u M' s1 hw hu)
theorem thinned_does (v : Value) (xs : List UInt8) (m : Nat) (M : Mem) (R : Value → Mem → Prop) (hv : Rd M v (bytesV xs)) (hl : xs.length ≤ 4096) (hm : m ≤ 60) (h : ∀ w u M', Sub M M' → (w : List UInt8).length ≤ 300 → (u : List UInt8).length ≤ 300 → R (.tuple #[str w, str u]) M') : Does Tryz.prog 113 [v, .int .i64 m] M R := by
  refine does_fn tab_ok Tryz.func113 rfl (by kernel_rfl) (by kernel_rfl) Tryz.ntmps113 Tryz.results113 rfl ?_
  simp (disch := omega)
  refine from_does v xs _ _ hv hl ?_
  intro s M0 hs0 s0 hsrc
  have fin : ∀ M', DrR s M0 M' → Sub M M' := fun M' d => d.keep M hs0 s0
  simp (disch := omega)
  refine drawW_does s _ _ hsrc ?_
  intro u M1 hu dd
  simp (disch := omega)
  intro b1 hb1
  simp (disch := omega)
  refine pickN_does s b1 3 [2, 4, 8] _ _ _ dd.src hb1 rfl rfl (by simp) (by simp) ?_
  intro few hz M3 e3
  have dd := dd.trans e3
  simp (disch := omega)
  refine loop_to tab_ok [8, 10, 18, 19, 20, 21, 22, 23, 24, 25, 26, 27, 28, 29, 30, 31, 32, 33, 34, 35, 36, 37, 38, 39, 40] (fun x : Nat × List UInt8 => [(10, .int .i64 x.1), (8, str x.2)]) (fun x M' => x.1 ≤ u.length ∧ x.2.length ≤ x.1 ∧ DrR s M0 M') (fun x => u.length - x.1) (0, []) (by kernel_rfl) (by simp (disch := omega)) ⟨Nat.zero_le _, Nat.le_refl _, dd⟩ ?_
  clear dd
  rintro ⟨i, w⟩ M4 g ⟨hi, hw, dd⟩
  simp only at hi hw dd
  by_cases hlt : i < u.length
  · have hlt' : (i : Int) < (u.length : Int) := by omega
    simp (disch := omega) [hlt']
    refine nx_does s _ _ _ dd.src ?_
    intro x M5 _ _ e5
    have dd := dd.trans e5
    have hsg : (List.drop i (List.take (i + 1) u)).length ≤ 1 := by rw [List.length_drop, List.length_take]; omega
    by_cases x0 : x = 0
    · by_cases hc : (w.length : Int) < m
      · simp (disch := omega) [x0, hc]
        refine Rnd.mk' (i + 1, w ++ List.drop i (List.take ((i : Int) + 1).toNat u)) (by simp only; omega) (by (repeat (first | exact km | refine kp rfl ?_ | refine km' rfl ?_))) (by simp (disch := omega)) ⟨by simp only; omega, ?_, dd⟩
        simp only [List.length_append]
        rw [show ((i : Int) + 1).toNat = i + 1 by omega]
        omega
      · simp (disch := omega) [x0, hc]
        exact Rnd.mk' (i + 1, w) (by simp only; omega) (by (repeat (first | exact km | refine kp rfl ?_ | refine km' rfl ?_))) (by simp (disch := omega)) ⟨by simp only; omega, by simp only; omega, dd⟩
    · simp (disch := omega) [x0]
      exact Rnd.mk' (i + 1, w) (by simp only; omega) (by (repeat (first | exact km | refine kp rfl ?_ | refine km' rfl ?_))) (by simp (disch := omega)) ⟨by simp only; omega, by simp only; omega, dd⟩
  · have hlt' : ¬ (i : Int) < (u.length : Int) := by omega
    simp (disch := omega) [hlt']
    refine nx_does s 6 _ _ dd.src ?_
    intro x M5 _ hx e5
    have dd := dd.trans e5
    by_cases x0 : x = 0
    · simp (disch := omega) [x0]
      refine small_does s _ _ dd.src ?_
      intro w2 M6 hw2 e6
      have dd := dd.trans e6
      simp (disch := omega)
      refine bad_does s w2 _ _ dd.src (by omega) ?_
      intro w9 M7 hw9 e7
      have dd := dd.trans e7
      simp (disch := omega)
      refine bad_does s u _ _ dd.src (by omega) ?_
      intro u9 M8 hu9 e8
      simp (disch := omega)
      exact ret_of (h w9 u9 _ (fin _ (dd.trans e8)) (by omega) (by omega))
    · simp (disch := omega) [x0]
      refine bad_does s w _ _ dd.src (by omega) ?_
      intro w9 M7 hw9 e7
      have dd := dd.trans e7
      simp (disch := omega)
      refine bad_does s u _ _ dd.src (by omega) ?_
      intro u9 M8 hu9 e8
      simp (disch := omega)
      exact ret_of (h w9 u9 _ (fin _ (dd.trans e8)) (by omega) (by omega))
theorem drawCS_does (v : Value) (xs : List UInt8) (M : Mem) (R : Value → Mem → Prop) (hv : Rd M v (bytesV xs)) (hl : xs.length ≤ 4096) (h : ∀ w u M', Sub M M' → (w : List UInt8).length ≤ 300 → (u : List UInt8).length ≤ 300 → R (.tuple #[str w, str u]) M') : Does Tryz.prog 36 [v] M R := by
  refine does_fn tab_ok Tryz.func36 rfl (by kernel_rfl) (by kernel_rfl) Tryz.ntmps36 Tryz.results36 rfl ?_
  simp (disch := omega)
  refine thinned_does v xs 5 _ _ hv hl (by omega) ?_
  intro w u M' s1 hw hu
  simp (disch := omega)
  exact ret_of (h w u M' s1 hw hu)
theorem drawFO_does (v : Value) (xs : List UInt8) (M : Mem) (R : Value → Mem → Prop) (hv : Rd M v (bytesV xs)) (hl : xs.length ≤ 4096) (h : ∀ w k M', Sub M M' → (w : List UInt8).length ≤ 300 → NearOk k → R (.tuple #[str w, .int .i64 k]) M') : Does Tryz.prog 40 [v] M R := by
  refine does_fn tab_ok Tryz.func40 rfl (by kernel_rfl) (by kernel_rfl) Tryz.ntmps40 Tryz.results40 rfl ?_
  simp (disch := omega)
  refine from_does v xs _ _ hv hl ?_
  intro s M0 hs0 s0 hsrc
  have fin : ∀ M', DrR s M0 M' → Sub M M' := fun M' d => d.keep M hs0 s0
  simp (disch := omega)
  refine spoil_does s _ _ hsrc ?_
  intro w M1 hw dd
  simp (disch := omega)
  refine near2_does s 60 _ _ dd.src (by omega) ?_
  intro x M3 hx e3
  have dd := dd.trans e3
  simp (disch := omega)
  intro b1 hb1
  simp (disch := omega)
  refine pickN_does s b1 7 [0, 1, 2, 3, 4, 6, x] _ _ _ dd.src hb1 rfl rfl (by simp) (by simp) ?_
  intro k hk M4 e4
  have hk : NearOk k := by
    simp only [List.mem_cons, List.not_mem_nil, or_false] at hk
    unfold NearOk at *
    omega
  simp (disch := omega)
  exact ret_of (h w k _ (fin _ (dd.trans e4)) (by omega) hk)
theorem drawFa_does (v : Value) (xs : List UInt8) (M : Mem) (R : Value → Mem → Prop) (hv : Rd M v (bytesV xs)) (hl : xs.length ≤ 4096) (h : ∀ w i m M', Sub M M' → (w : List UInt8).length ≤ 300 → NearOk i → NearOk m → R (.tuple #[str w, .int .i64 i, .int .i64 m]) M') : Does Tryz.prog 42 [v] M R := by
  refine does_fn tab_ok Tryz.func42 rfl (by kernel_rfl) (by kernel_rfl) Tryz.ntmps42 Tryz.results42 rfl ?_
  simp (disch := omega)
  refine from_does v xs _ _ hv hl ?_
  intro s M0 hs0 s0 hsrc
  have fin : ∀ M', DrR s M0 M' → Sub M M' := fun M' d => d.keep M hs0 s0
  simp (disch := omega)
  refine drawW_does s _ _ hsrc ?_
  intro w M1 hw dd
  simp (disch := omega)
  refine near2_does s w.length _ _ dd.src (by omega) ?_
  intro i M2 hi e2
  have dd := dd.trans e2
  obtain ⟨q, hq, hq2⟩ : ∃ q : Nat, (if ((w.length : Int) - if (if 60 < i then 60 else i) < 0 then 0 else if 60 < i then 60 else i) < 0 then (0 : Int) else (w.length : Int) - if (if 60 < i then 60 else i) < 0 then 0 else if 60 < i then 60 else i) = q ∧ q ≤ 100 := by
    obtain ⟨k, hk⟩ : ∃ k : Int, k = if (if 60 < i then 60 else i) < 0 then 0 else if 60 < i then 60 else i := ⟨_, rfl⟩
    have hk0 : 0 ≤ k := by
      rw [hk]
      obtain ⟨j, hj⟩ : ∃ j : Int, j = if 60 < i then 60 else i := ⟨_, rfl⟩
      rw [← hj]
      by_cases c : j < 0
      · rw [if_pos c]; exact Int.le_refl 0
      · rw [if_neg c]; omega
    rw [← hk]
    by_cases hh : (w.length : Int) - k < 0
    · exact ⟨0, by rw [if_pos hh]; rfl, by omega⟩
    · exact ⟨((w.length : Int) - k).toNat, by rw [if_neg hh]; omega, by omega⟩
  simp (disch := omega) [hq]
  refine near2_does s q _ _ dd.src (by omega) ?_
  intro m M3 hm e3
  have dd := dd.trans e3
  simp (disch := omega)
  refine bad_does s w _ _ dd.src (by omega) ?_
  intro w9 M4 hw9 e4
  simp (disch := omega)
  exact ret_of (h w9 i m _ (fin _ (dd.trans e4)) (by omega) hi hm)
theorem drawWO_does (v : Value) (xs : List UInt8) (M : Mem) (R : Value → Mem → Prop) (hv : Rd M v (bytesV xs)) (hl : xs.length ≤ 4096) (h : ∀ m k M', Sub M M' → R (.tuple #[.int .i64 m, .int .i64 k]) M') : Does Tryz.prog 44 [v] M R := by
  refine does_fn tab_ok Tryz.func44 rfl (by kernel_rfl) (by kernel_rfl) Tryz.ntmps44 Tryz.results44 rfl ?_
  simp (disch := omega)
  refine from_does v xs _ _ hv hl ?_
  intro s M0 hs0 s0 hsrc
  have fin : ∀ M', DrR s M0 M' → Sub M M' := fun M' d => d.keep M hs0 s0
  simp (disch := omega)
  intro b1 hb1
  simp (disch := omega)
  refine pickN_does s b1 12 [0, 1, 2, 3, 3, 4, 5, 8, 9, 60, -1, 61] _ _ _ hsrc hb1 rfl rfl (by simp) (by simp) ?_
  intro m _ M1 dd
  simp (disch := omega)
  intro b2 hb2
  simp (disch := omega)
  refine pickN_does s b2 8 [1, 2, 2, 3, 4, 5, 0, 6] _ _ _ dd.src hb2 rfl rfl (by simp) (by simp) ?_
  intro k _ M2 e2
  simp (disch := omega)
  exact ret_of (h m k _ (fin _ (dd.trans e2)))
theorem drawCL_does (v : Value) (xs : List UInt8) (M : Mem) (R : Value → Mem → Prop) (hv : Rd M v (bytesV xs)) (hl : xs.length ≤ 4096) (h : ∀ w M', Sub M M' → (w : List UInt8).length ≤ 300 → R (str w) M') : Does Tryz.prog 47 [v] M R := by
  refine does_fn tab_ok Tryz.func47 rfl (by kernel_rfl) (by kernel_rfl) Tryz.ntmps47 Tryz.results47 rfl ?_
  simp (disch := omega)
  refine from_does v xs _ _ hv hl ?_
  intro s M0 hs0 s0 hsrc
  have fin : ∀ M', DrR s M0 M' → Sub M M' := fun M' d => d.keep M hs0 s0
  simp (disch := omega)
  refine spoil_does s _ _ hsrc ?_
  intro w M1 hw dd
  simp (disch := omega)
  exact ret_of (h w _ (fin _ dd) (by omega))
theorem drawAP_does (v : Value) (xs : List UInt8) (M : Mem) (R : Value → Mem → Prop) (hv : Rd M v (bytesV xs)) (hl : xs.length ≤ 4096) (h : ∀ w M', Sub M M' → (w : List UInt8).length ≤ 300 → R (str w) M') : Does Tryz.prog 71 [v] M R := by
  refine does_fn tab_ok Tryz.func71 rfl (by kernel_rfl) (by kernel_rfl) Tryz.ntmps71 Tryz.results71 rfl ?_
  simp (disch := omega)
  refine from_does v xs _ _ hv hl ?_
  intro s M0 hs0 s0 hsrc
  have fin : ∀ M', DrR s M0 M' → Sub M M' := fun M' d => d.keep M hs0 s0
  simp (disch := omega)
  refine spoil_does s _ _ hsrc ?_
  intro w M1 hw dd
  simp (disch := omega)
  exact ret_of (h w _ (fin _ dd) (by omega))
theorem drawASq_does (v : Value) (xs : List UInt8) (M : Mem) (R : Value → Mem → Prop) (hv : Rd M v (bytesV xs)) (hl : xs.length ≤ 4096) (h : ∀ w M', Sub M M' → (w : List UInt8).length ≤ 300 → R (str w) M') : Does Tryz.prog 23 [v] M R := by
  refine does_fn tab_ok Tryz.func23 rfl (by kernel_rfl) (by kernel_rfl) Tryz.ntmps23 Tryz.results23 rfl ?_
  simp (disch := omega)
  refine from_does v xs _ _ hv hl ?_
  intro s M0 hs0 s0 hsrc
  have fin : ∀ M', DrR s M0 M' → Sub M M' := fun M' d => d.keep M hs0 s0
  simp (disch := omega)
  refine spoil_does s _ _ hsrc ?_
  intro w M1 hw dd
  simp (disch := omega)
  exact ret_of (h w _ (fin _ dd) (by omega))
theorem drawSW_does (v : Value) (xs : List UInt8) (M : Mem) (R : Value → Mem → Prop) (hv : Rd M v (bytesV xs)) (hl : xs.length ≤ 4096) (h : ∀ w M', Sub M M' → (w : List UInt8).length ≤ 300 → R (str w) M') : Does Tryz.prog 28 [v] M R := by
  refine does_fn tab_ok Tryz.func28 rfl (by kernel_rfl) (by kernel_rfl) Tryz.ntmps28 Tryz.results28 rfl ?_
  simp (disch := omega)
  refine from_does v xs _ _ hv hl ?_
  intro s M0 hs0 s0 hsrc
  have fin : ∀ M', DrR s M0 M' → Sub M M' := fun M' d => d.keep M hs0 s0
  simp (disch := omega)
  refine spoil_does s _ _ hsrc ?_
  intro w M1 hw dd
  simp (disch := omega)
  exact ret_of (h w _ (fin _ dd) (by omega))
end Go.Proofs.YticejlplbibegaaGreat

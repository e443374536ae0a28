/- Draws: words for vectors of letters. -/
import Derived.Test.YthpcojnpiggaiaaGreatCK
import Derived.Test.YthpcojnpiggaiaaGreatC66
namespace Go.Proofs.YthpcojnpiggaiaaGreat
open Go
set_option linter.unusedSimpArgs false
set_option linter.unusedVariables false

theorem draw7_does (v : Value) (xs : List UInt8) (M : Mem) (R : Value → Mem → Prop) (hv : Rd M v (bytesV xs)) (hl : xs.length ≤ 4096) (h : ∀ w k M', Sub M M' → (w : List UInt8).length ≤ 200 → 1 ≤ k → k ≤ 61 → R (.tuple #[str w, .int .i64 k]) M') : Does Tryz.prog 74 [v] M R := by
  refine does_fn tab_ok Tryz.func74 rfl (by kernel_rfl) (by kernel_rfl) Tryz.ntmps74 Tryz.results74 rfl ?_
  simp (disch := omega)
  refine from_does v xs _ _ hv hl ?_
  intro s M0 hs0 s0 hsrc
  simp (disch := omega)
  refine spoil_does s _ _ hsrc ?_
  intro w M1 hw d1
  simp (disch := omega)
  intro b1 hb1
  simp (disch := omega)
  refine pickN_does s b1 9 [2, 2, 3, 3, 4, 5, 60, 1, 61] _ _ _ d1.src hb1 rfl rfl (by simp) (by simp) ?_
  intro k hk M2 d2
  have hk : 1 ≤ k ∧ k ≤ 61 := by
    simp only [List.mem_cons, List.not_mem_nil, or_false] at hk
    omega
  simp (disch := omega)
  exact ret_of (h w k _ ((d1.trans d2).keep M hs0 s0) hw hk.1 hk.2)
theorem drawAPw_does (v : Value) (xs : List UInt8) (M : Mem) (R : Value → Mem → Prop) (hv : Rd M v (bytesV xs)) (hl : xs.length ≤ 4096) (h : ∀ w k M', Sub M M' → (w : List UInt8).length ≤ 200 → 1 ≤ k → k ≤ 61 → R (.tuple #[str w, .int .i64 k]) M') : Does Tryz.prog 15 [v] M R := by
  refine does_fn tab_ok Tryz.func15 rfl (by kernel_rfl) (by kernel_rfl) Tryz.ntmps15 Tryz.results15 rfl ?_
  simp (disch := omega)
  refine draw7_does v xs _ _ hv hl ?_
  intro w k M1 s1 hw h1 h2
  simp (disch := omega)
  exact ret_of (h w k M1 s1 hw h1 h2)
theorem drawCAl_does (v : Value) (xs : List UInt8) (M : Mem) (R : Value → Mem → Prop) (hv : Rd M v (bytesV xs)) (hl : xs.length ≤ 4096) (h : ∀ w M', Sub M M' → (w : List UInt8).length ≤ 200 → R (str w) M') : Does Tryz.prog 25 [v] M R := by
  refine does_fn tab_ok Tryz.func25 rfl (by kernel_rfl) (by kernel_rfl) Tryz.ntmps25 Tryz.results25 rfl ?_
  simp (disch := omega)
  refine from_does v xs _ _ hv hl ?_
  intro s M0 hs0 s0 hsrc
  simp (disch := omega)
  refine nx_does s 5 _ _ hsrc ?_
  intro x M1 _ hx d1
  by_cases h0 : x = 0
  · simp (disch := omega) [h0]
    refine spoil_does s _ _ d1.src ?_
    intro w M2 hw d2
    simp (disch := omega)
    exact ret_of (h w _ ((d1.trans d2).keep M hs0 s0) hw)
  · simp (disch := omega) [h0]
    refine nx_does s 13 _ _ d1.src ?_
    intro n M2 _ hn d2
    have hn := hn (by omega)
    have dd := d1.trans d2
    simp (disch := omega)
    intro b1 hb1
    simp (disch := omega)
    refine pickN_does s b1 4 [1, 2, 3, 5] _ _ _ dd.src hb1 rfl rfl (by simp) (by simp) ?_
    intro k hk M3 d3
    have hk : 1 ≤ k ∧ k ≤ 5 := by
      simp only [List.mem_cons, List.not_mem_nil, or_false] at hk
      omega
    have dd := dd.trans d3
    simp (disch := omega)
    refine drawOf_does s n k _ _ dd.src (by omega) (by omega) ?_
    intro w M4 hw _ d4
    have dd := dd.trans d4
    simp (disch := omega)
    refine bad_does s w _ _ dd.src (by omega) ?_
    intro w2 M5 hw2 d5
    simp (disch := omega)
    exact ret_of (h w2 _ ((dd.trans d5).keep M hs0 s0) (by omega))
theorem drawSo_does (v : Value) (xs : List UInt8) (M : Mem) (R : Value → Mem → Prop) (hv : Rd M v (bytesV xs)) (hl : xs.length ≤ 4096) (h : ∀ w M', Sub M M' → (w : List UInt8).length ≤ 200 → R (str w) M') : Does Tryz.prog 27 [v] M R := by
  refine does_fn tab_ok Tryz.func27 rfl (by kernel_rfl) (by kernel_rfl) Tryz.ntmps27 Tryz.results27 rfl ?_
  simp (disch := omega)
  refine from_does v xs _ _ hv hl ?_
  intro s M0 hs0 s0 hsrc
  simp (disch := omega)
  refine spoil_does s _ _ hsrc ?_
  intro w M1 hw d1
  simp (disch := omega)
  exact ret_of (h w _ (d1.keep M hs0 s0) hw)
theorem drawASq7_does (v : Value) (xs : List UInt8) (M : Mem) (R : Value → Mem → Prop) (hv : Rd M v (bytesV xs)) (hl : xs.length ≤ 4096) (h : ∀ w M', Sub M M' → (w : List UInt8).length ≤ 200 → R (str w) M') : Does Tryz.prog 22 [v] M R := by
  refine does_fn tab_ok Tryz.func22 rfl (by kernel_rfl) (by kernel_rfl) Tryz.ntmps22 Tryz.results22 rfl ?_
  simp (disch := omega)
  refine from_does v xs _ _ hv hl ?_
  intro s M0 hs0 s0 hsrc
  simp (disch := omega)
  refine spoil_does s _ _ hsrc ?_
  intro w M1 hw d1
  simp (disch := omega)
  exact ret_of (h w _ (d1.keep M hs0 s0) hw)
theorem drawAPe_does (v : Value) (xs : List UInt8) (M : Mem) (R : Value → Mem → Prop) (hv : Rd M v (bytesV xs)) (hl : xs.length ≤ 4096) (h : ∀ w M', Sub M M' → (w : List UInt8).length ≤ 200 → R (str w) M') : Does Tryz.prog 48 [v] M R := by
  refine does_fn tab_ok Tryz.func48 rfl (by kernel_rfl) (by kernel_rfl) Tryz.ntmps48 Tryz.results48 rfl ?_
  simp (disch := omega)
  refine from_does v xs _ _ hv hl ?_
  intro s M0 hs0 s0 hsrc
  simp (disch := omega)
  refine spoil_does s _ _ hsrc ?_
  intro w M1 hw d1
  simp (disch := omega)
  exact ret_of (h w _ (d1.keep M hs0 s0) hw)
end Go.Proofs.YthpcojnpiggaiaaGreat

/- Draws: numbers near a range with their bounds; patterns and numbers. -/
import Derived.Test.YticejlplbibegaaC56
import Derived.Test.YticejlplbibegaaC49
namespace Go.Proofs.Yticejlplbibegaa
open Go
set_option linter.unusedSimpArgs false
set_option linter.unusedVariables false

/-- Numbers that a draw near a range comes to. -/
def NearOk (x : Int) : Prop := -4611686018427387904 ≤ x ∧ x ≤ 1099511627776
theorem near2_does (s : Rng) (m : Nat) (M : Mem) (R : Value → Mem → Prop) (hs : SrcR M s) (hm : m ≤ 1000000) (h : ∀ x M', NearOk x → DrR s M M' → R (.int .i64 x) M') : Does Try.prog 37 [.pointer (some ⟨s.b, 0, none⟩), .int .i64 m] M R := by
  refine does_fn tab_ok Try.func37 rfl (by kernel_rfl) (by kernel_rfl) Try.ntmps37 Try.results37 rfl ?_
  simp (disch := omega)
  refine nx_does s 14 _ _ hs ?_
  intro x M1 _ hx d1
  by_cases h0 : x = 0
  · simp (disch := omega) [h0]
    intro b hb
    dsimp only
    have r := rd_fresh d1.src hb (c := 4) (n := 4) (w := true) (xs := ints [-1, (m : Int) + 1, 1099511627776, -4611686018427387904]) rfl (Nat.le_refl 4)
    simp (disch := omega)
    refine pick_does s _ [-1, (m : Int) + 1, 1099511627776, -4611686018427387904] _ _ (d1.src.sub ((Sub.refl M1).put hb _)) r (by simp) (by simp) ?_
    intro z hz M2 d2
    simp (disch := omega)
    refine ret_of (h z _ ?_ ((d1.trans (DrR.sub d1.src ((Sub.refl M1).put hb _))).trans d2))
    simp only [List.mem_cons, List.not_mem_nil, or_false] at hz
    unfold NearOk
    omega
  · simp (disch := omega) [h0]
    refine nx_does s _ _ _ d1.src ?_
    intro y M2 _ hy d2
    have hy := hy (by omega)
    simp (disch := omega)
    exact ret_of (h y _ ⟨by omega, by omega⟩ (d1.trans d2))
/-- A number out of a list of numbers that was just laid. -/
theorem pickN_does (s : Rng) (b : Nat) (n : Nat) (zs : List Int) (M0 M : Mem) (R : Value → Mem → Prop) (hs : SrcR M0 s) (hb : M0 b = none) (hM : M = M0.put b (.cells true (ints zs) n)) (hn : zs.length = n) (h1 : 1 ≤ zs.length) (hl : zs.length ≤ 1000)
    (h : ∀ z ∈ zs, ∀ M', DrR s M0 M' → R (.int .i64 z) M') : Does Try.prog 36 [.pointer (some ⟨s.b, 0, none⟩), .slice (some ⟨b, 0, none⟩) n n] M R := by
  subst hM
  refine pick_does s _ zs _ _ (hs.sub ((Sub.refl _).put hb _)) (rd_fresh hs hb (by rw [ints_length]; exact hn) (Nat.le_refl n)) h1 hl ?_
  intro z hz M' d
  exact h z hz M' ((DrR.sub hs ((Sub.refl _).put hb _)).trans d)
theorem drawFA_does (v : Value) (xs : List UInt8) (M : Mem) (R : Value → Mem → Prop) (hv : Rd M v (bytesV xs)) (hl : xs.length ≤ 4096) (h : ∀ p k n M', Sub M M' → (p : List UInt8).length ≤ 100 → NearOk k → NearOk n → R (.tuple #[str p, .int .i64 k, .int .i64 n]) M') : Does Try.prog 8 [v] M R := by
  refine does_fn tab_ok Try.func8 rfl (by kernel_rfl) (by kernel_rfl) Try.ntmps8 Try.results8 rfl ?_
  simp (disch := omega)
  refine from_does v xs _ _ hv hl ?_
  intro s M0 hs0 s0 hsrc
  have fin : ∀ M', DrR s M0 M' → Sub M M' := fun M' d => d.keep M hs0 s0
  simp (disch := omega)
  refine pdraw_does s _ _ hsrc ?_
  intro p M1 hp dd
  simp (disch := omega)
  refine pbad_does s p _ _ dd.src (by have := hp.1; omega) ?_
  intro p M2 hp2 e2
  have hp2 : p.length ≤ 100 := by have := hp.1; omega
  have dd := dd.trans e2
  simp (disch := omega)
  refine near2_does s 3 _ _ dd.src (by omega) ?_
  intro x M3 hx e3
  have dd := dd.trans e3
  simp (disch := omega)
  intro b1 hb1
  simp (disch := omega)
  refine pickN_does s b1 5 [1, 2, 2, 3, x] _ _ _ dd.src hb1 rfl rfl (by simp) (by simp) ?_
  intro k hk M4 e4
  have hk : NearOk k := by
    simp only [List.mem_cons, List.not_mem_nil, or_false] at hk
    unfold NearOk at *
    omega
  have dd := dd.trans e4
  simp (disch := omega)
  refine near2_does s 12 _ _ dd.src (by omega) ?_
  intro y M5 hy e5
  have dd := dd.trans e5
  simp (disch := omega)
  intro b2 hb2
  simp (disch := omega)
  refine pickN_does s b2 5 [3, 6, 9, 12, y] _ _ _ dd.src hb2 rfl rfl (by simp) (by simp) ?_
  intro n hn M6 e6
  have hn : NearOk n := by
    simp only [List.mem_cons, List.not_mem_nil, or_false] at hn
    unfold NearOk at *
    omega
  have dd := dd.trans e6
  simp (disch := omega)
  exact ret_of (h p k n _ (fin _ dd) hp2 hk hn)
theorem drawCA_does (v : Value) (xs : List UInt8) (M : Mem) (R : Value → Mem → Prop) (hv : Rd M v (bytesV xs)) (hl : xs.length ≤ 4096) (h : ∀ p k n M', Sub M M' → (p : List UInt8).length ≤ 100 → NearOk k → NearOk n → R (.tuple #[str p, .int .i64 k, .int .i64 n]) M') : Does Try.prog 11 [v] M R := by
  refine does_fn tab_ok Try.func11 rfl (by kernel_rfl) (by kernel_rfl) Try.ntmps11 Try.results11 rfl ?_
  simp (disch := omega)
  refine from_does v xs _ _ hv hl ?_
  intro s M0 hs0 s0 hsrc
  have fin : ∀ M', DrR s M0 M' → Sub M M' := fun M' d => d.keep M hs0 s0
  simp (disch := omega)
  refine pdraw_does s _ _ hsrc ?_
  intro p M1 hp dd
  simp (disch := omega)
  refine near2_does s 3 _ _ dd.src (by omega) ?_
  intro x M3 hx e3
  have dd := dd.trans e3
  simp (disch := omega)
  intro b1 hb1
  simp (disch := omega)
  refine pickN_does s b1 6 [1, 2, 2, 2, 3, x] _ _ _ dd.src hb1 rfl rfl (by simp) (by simp) ?_
  intro k hk M4 e4
  have hk : NearOk k := by
    simp only [List.mem_cons, List.not_mem_nil, or_false] at hk
    unfold NearOk at *
    omega
  have dd := dd.trans e4
  simp (disch := omega)
  refine near2_does s 9 _ _ dd.src (by omega) ?_
  intro y M5 hy e5
  have dd := dd.trans e5
  simp (disch := omega)
  intro b2 hb2
  simp (disch := omega)
  refine pickN_does s b2 5 [3, 5, 6, 7, y] _ _ _ dd.src hb2 rfl rfl (by simp) (by simp) ?_
  intro n hn M6 e6
  have hn : NearOk n := by
    simp only [List.mem_cons, List.not_mem_nil, or_false] at hn
    unfold NearOk at *
    omega
  have dd := dd.trans e6
  by_cases h2 : 2 < k
  · simp (disch := omega) [h2]
    intro b3 hb3
    simp (disch := omega)
    refine pickN_does s b3 4 [2, 4, 5, 10] _ _ _ dd.src hb3 rfl rfl (by simp) (by simp) ?_
    intro n2 hn2 M7 e7
    have hn2 : NearOk n2 := by
      simp only [List.mem_cons, List.not_mem_nil, or_false] at hn2
      unfold NearOk at *
      omega
    have dd := dd.trans e7
    simp (disch := omega)
    refine pbad_does s p _ _ dd.src (by have := hp.1; omega) ?_
    intro p M8 hp2 e8
    have hp2 : p.length ≤ 100 := by have := hp.1; omega
    simp (disch := omega)
    exact ret_of (h p k n2 _ (fin _ (dd.trans e8)) hp2 hk hn2)
  · simp (disch := omega) [h2]
    refine pbad_does s p _ _ dd.src (by have := hp.1; omega) ?_
    intro p M8 hp2 e8
    have hp2 : p.length ≤ 100 := by have := hp.1; omega
    simp (disch := omega)
    exact ret_of (h p k n _ (fin _ (dd.trans e8)) hp2 hk hn)
theorem drawLAv_does (v : Value) (xs : List UInt8) (M : Mem) (R : Value → Mem → Prop) (hv : Rd M v (bytesV xs)) (hl : xs.length ≤ 4096) (h : ∀ p k M', Sub M M' → (p : List UInt8).length ≤ 100 → NearOk k → R (.tuple #[str p, .int .i64 k]) M') : Does Try.prog 14 [v] M R := by
  refine does_fn tab_ok Try.func14 rfl (by kernel_rfl) (by kernel_rfl) Try.ntmps14 Try.results14 rfl ?_
  simp (disch := omega)
  refine from_does v xs _ _ hv hl ?_
  intro s M0 hs0 s0 hsrc
  have fin : ∀ M', DrR s M0 M' → Sub M M' := fun M' d => d.keep M hs0 s0
  simp (disch := omega)
  refine pdraw_does s _ _ hsrc ?_
  intro p M1 hp dd
  simp (disch := omega)
  refine pbad_does s p _ _ dd.src (by have := hp.1; omega) ?_
  intro p M2 hp2 e2
  have hp2 : p.length ≤ 100 := by have := hp.1; omega
  have dd := dd.trans e2
  simp (disch := omega)
  intro b1 hb1
  simp (disch := omega)
  refine pickN_does s b1 6 [1, 2, 2, 2, 0, 3] _ _ _ dd.src hb1 rfl rfl (by simp) (by simp) ?_
  intro k hk M4 e4
  have hk : NearOk k := by
    simp only [List.mem_cons, List.not_mem_nil, or_false] at hk
    unfold NearOk
    omega
  simp (disch := omega)
  exact ret_of (h p k _ (fin _ (dd.trans e4)) hp2 hk)
theorem drawZW_does (v : Value) (xs : List UInt8) (M : Mem) (R : Value → Mem → Prop) (hv : Rd M v (bytesV xs)) (hl : xs.length ≤ 4096) (h : ∀ k M', Sub M M' → NearOk k → R (.int .i64 k) M') : Does Try.prog 17 [v] M R := by
  refine does_fn tab_ok Try.func17 rfl (by kernel_rfl) (by kernel_rfl) Try.ntmps17 Try.results17 rfl ?_
  simp (disch := omega)
  refine from_does v xs _ _ hv hl ?_
  intro s M0 hs0 s0 hsrc
  have fin : ∀ M', DrR s M0 M' → Sub M M' := fun M' d => d.keep M hs0 s0
  simp (disch := omega)
  refine near2_does s 5 _ _ hsrc (by omega) ?_
  intro x M3 hx e3
  simp (disch := omega)
  exact ret_of (h x _ (fin _ e3) hx)
theorem drawIP_does (v : Value) (xs : List UInt8) (M : Mem) (R : Value → Mem → Prop) (hv : Rd M v (bytesV xs)) (hl : xs.length ≤ 4096) (h : ∀ p M', Sub M M' → (p : List UInt8).length ≤ 100 → R (str p) M') : Does Try.prog 48 [v] M R := by
  refine does_fn tab_ok Try.func48 rfl (by kernel_rfl) (by kernel_rfl) Try.ntmps48 Try.results48 rfl ?_
  simp (disch := omega)
  refine from_does v xs _ _ hv hl ?_
  intro s M0 hs0 s0 hsrc
  have fin : ∀ M', DrR s M0 M' → Sub M M' := fun M' d => d.keep M hs0 s0
  simp (disch := omega)
  refine pdraw_does s _ _ hsrc ?_
  intro p M1 hp dd
  simp (disch := omega)
  refine pbad_does s p _ _ dd.src (by have := hp.1; omega) ?_
  intro p M2 hp2 e2
  have hp2 : p.length ≤ 100 := by have := hp.1; omega
  simp (disch := omega)
  exact ret_of (h p _ (fin _ (dd.trans e2)) hp2)
theorem drawIU_does (v : Value) (xs : List UInt8) (M : Mem) (R : Value → Mem → Prop) (hv : Rd M v (bytesV xs)) (hl : xs.length ≤ 4096) (h : ∀ p M', Sub M M' → (p : List UInt8).length ≤ 100 → R (str p) M') : Does Try.prog 20 [v] M R := by
  refine does_fn tab_ok Try.func20 rfl (by kernel_rfl) (by kernel_rfl) Try.ntmps20 Try.results20 rfl ?_
  simp (disch := omega)
  refine drawIP_does v xs _ _ hv hl ?_
  intro p M1 s1 hp
  simp (disch := omega)
  exact ret_of (h p _ s1 hp)
end Go.Proofs.Yticejlplbibegaa

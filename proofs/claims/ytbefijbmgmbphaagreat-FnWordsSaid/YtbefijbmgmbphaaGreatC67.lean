/- Draws: two words, words and numbers. -/
import Derived.Test.YtbefijbmgmbphaaGreatC66
import Derived.Test.YtbefijbmgmbphaaGreatC49
namespace Go.Proofs.YtbefijbmgmbphaaGreat
open Go
set_option linter.unusedSimpArgs false
set_option linter.unusedVariables false

theorem two_does (v : Value) (xs : List UInt8) (M : Mem) (R : Value → Mem → Prop) (hv : Rd M v (bytesV xs)) (hl : xs.length ≤ 4096) (h : ∀ w u M', Sub M M' → (w : List UInt8).length ≤ 300 → (u : List UInt8).length ≤ 300 → R (.tuple #[str w, str u]) M') : Does Tryz.prog 36 [v] M R := by
  refine does_fn tab_ok Tryz.func36 rfl (by kernel_rfl) (by kernel_rfl) Tryz.ntmps36 Tryz.results36 rfl ?_
  simp (disch := omega)
  refine from_does v xs _ _ hv hl ?_
  intro s M0 hs0 s0 hsrc
  have fin : ∀ M', DrR s M0 M' → Sub M M' := fun M' d => d.keep M hs0 s0
  simp (disch := omega)
  refine drawW_does s _ _ hsrc ?_
  intro w M1 hw dd
  simp (disch := omega)
  refine drawW_does s _ _ dd.src ?_
  intro u M2 hu e2
  have dd := dd.trans e2
  simp (disch := omega)
  refine nx_does s _ _ _ dd.src ?_
  intro n M3 _ hn e3
  have hn := hn (by omega)
  have dd := dd.trans e3
  obtain ⟨n, rfl⟩ : ∃ k : Nat, n = k := ⟨n.toNat, by omega⟩
  simp (disch := omega)
  refine nx_does s 5 _ _ dd.src ?_
  intro x M4 _ hx e4
  have dd := dd.trans e4
  by_cases x0 : x = 0
  · simp (disch := omega) [x0]
    refine plays (lights [0, 1, 2, 3] (.one 4 2 (lights [5, 6] .fin))) tab_ok (by kernel_rfl) (by kernel_rfl) (by rfl) ?_
    simp (disch := omega)
    refine small_does s _ _ dd.src ?_
    intro t N1 ht f1
    have dd := dd.trans f1
    have htl : (w.take n ++ t).length ≤ 110 := by rw [List.length_append, List.length_take]; omega
    have hbd : (w.take n).length + t.length ≤ 110 := by rw [List.length_append] at htl; omega
    simp (disch := omega)
    generalize hU : w.take n ++ t = u at *
    have hUl : (n : Int) + t.length = u.length := by rw [← hU, List.length_append, List.length_take]; omega
    rw [hUl]
    by_cases h60 : 60 < u.length
    · have h60' : (60 : Int) < u.length := by omega
      simp (disch := omega) [h60']
      have hul : (u.take 60).length ≤ 60 := by rw [List.length_take]; omega
      have e60 : (60 : Int).toNat = 60 := rfl
      try rw [e60]
      generalize u.take 60 = u at *
      refine bad_does s w _ _ dd.src (by omega) ?_
      intro w9 N8 hw9 e8
      have dd := dd.trans e8
      simp (disch := omega)
      refine bad_does s u _ _ dd.src (by omega) ?_
      intro u9 N9 hu9 e9
      simp (disch := omega)
      exact ret_of (h w9 u9 _ (fin _ (dd.trans e9)) (by omega) (by omega))
    · have h60' : ¬ (60 : Int) < u.length := by omega
      simp (disch := omega) [h60']
      refine bad_does s w _ _ dd.src (by omega) ?_
      intro w9 N8 hw9 e8
      have dd := dd.trans e8
      simp (disch := omega)
      refine bad_does s u _ _ dd.src (by omega) ?_
      intro u9 N9 hu9 e9
      simp (disch := omega)
      exact ret_of (h w9 u9 _ (fin _ (dd.trans e9)) (by omega) (by omega))
  by_cases x1 : x = 1
  · simp (disch := omega) [x1]
    refine plays (lights [0, 2, 3, 4] (.one 1 2 (lights [5, 6] .fin))) tab_ok (by kernel_rfl) (by kernel_rfl) (by rfl) ?_
    simp (disch := omega)
    refine small_does s _ _ dd.src ?_
    intro t N1 ht f1
    have dd := dd.trans f1
    have htl : (t ++ w.drop n).length ≤ 110 := by rw [List.length_append, List.length_drop]; omega
    have hbd : t.length + (w.drop n).length ≤ 110 := by rw [List.length_append] at htl; omega
    simp (disch := omega)
    generalize hU : t ++ w.drop n = u at *
    have hUl : (t.length : Int) + (w.length - n : Nat) = u.length := by rw [← hU, List.length_append, List.length_drop]; omega
    rw [hUl]
    by_cases h60 : 60 < u.length
    · have h60' : (60 : Int) < u.length := by omega
      simp (disch := omega) [h60']
      have hul : (u.take 60).length ≤ 60 := by rw [List.length_take]; omega
      have e60 : (60 : Int).toNat = 60 := rfl
      try rw [e60]
      generalize u.take 60 = u at *
      refine bad_does s w _ _ dd.src (by omega) ?_
      intro w9 N8 hw9 e8
      have dd := dd.trans e8
      simp (disch := omega)
      refine bad_does s u _ _ dd.src (by omega) ?_
      intro u9 N9 hu9 e9
      simp (disch := omega)
      exact ret_of (h w9 u9 _ (fin _ (dd.trans e9)) (by omega) (by omega))
    · have h60' : ¬ (60 : Int) < u.length := by omega
      simp (disch := omega) [h60']
      refine bad_does s w _ _ dd.src (by omega) ?_
      intro w9 N8 hw9 e8
      have dd := dd.trans e8
      simp (disch := omega)
      refine bad_does s u _ _ dd.src (by omega) ?_
      intro u9 N9 hu9 e9
      simp (disch := omega)
      exact ret_of (h w9 u9 _ (fin _ (dd.trans e9)) (by omega) (by omega))
  by_cases x2 : x = 2
  · simp (disch := omega) [x2]
    have hu : w.length ≤ 100 := hw
    obtain ⟨u, hU⟩ : ∃ u, u = w := ⟨_, rfl⟩
    rw [← hU] at hu
    by_cases h60 : 60 < w.length
    · have h60' : (60 : Int) < w.length := by omega
      simp (disch := omega) [h60']
      have hul : (w.take 60).length ≤ 60 := by rw [List.length_take]; omega
      generalize w.take 60 = u at *
      refine bad_does s w _ _ dd.src (by omega) ?_
      intro w9 N8 hw9 e8
      have dd := dd.trans e8
      simp (disch := omega)
      refine bad_does s u _ _ dd.src (by omega) ?_
      intro u9 N9 hu9 e9
      simp (disch := omega)
      exact ret_of (h w9 u9 _ (fin _ (dd.trans e9)) (by omega) (by omega))
    · have h60' : ¬ (60 : Int) < w.length := by omega
      simp (disch := omega) [h60']
      refine bad_does s w _ _ dd.src (by omega) ?_
      intro w9 N8 hw9 e8
      have dd := dd.trans e8
      simp (disch := omega)
      refine bad_does s w _ _ dd.src (by omega) ?_
      intro u9 N9 hu9 e9
      simp (disch := omega)
      exact ret_of (h w9 u9 _ (fin _ (dd.trans e9)) (by omega) (by omega))
  · simp (disch := omega) [x0, x1, x2]
    by_cases h60 : 60 < u.length
    · have h60' : (60 : Int) < u.length := by omega
      simp (disch := omega) [h60']
      have hul : (u.take 60).length ≤ 60 := by rw [List.length_take]; omega
      have e60 : (60 : Int).toNat = 60 := rfl
      try rw [e60]
      generalize u.take 60 = u at *
      refine bad_does s w _ _ dd.src (by omega) ?_
      intro w9 N8 hw9 e8
      have dd := dd.trans e8
      simp (disch := omega)
      refine bad_does s u _ _ dd.src (by omega) ?_
      intro u9 N9 hu9 e9
      simp (disch := omega)
      exact ret_of (h w9 u9 _ (fin _ (dd.trans e9)) (by omega) (by omega))
    · have h60' : ¬ (60 : Int) < u.length := by omega
      simp (disch := omega) [h60']
      refine bad_does s w _ _ dd.src (by omega) ?_
      intro w9 N8 hw9 e8
      have dd := dd.trans e8
      simp (disch := omega)
      refine bad_does s u _ _ dd.src (by omega) ?_
      intro u9 N9 hu9 e9
      simp (disch := omega)
      exact ret_of (h w9 u9 _ (fin _ (dd.trans e9)) (by omega) (by omega))
theorem drawPr_does (v : Value) (xs : List UInt8) (M : Mem) (R : Value → Mem → Prop) (hv : Rd M v (bytesV xs)) (hl : xs.length ≤ 4096) (h : ∀ w u M', Sub M M' → (w : List UInt8).length ≤ 300 → (u : List UInt8).length ≤ 300 → R (.tuple #[str w, str u]) M') : Does Tryz.prog 5 [v] M R := by
  refine does_fn tab_ok Tryz.func5 rfl (by kernel_rfl) (by kernel_rfl) Tryz.ntmps5 Tryz.results5 rfl ?_
  simp (disch := omega)
  refine two_does v xs _ _ hv hl ?_
  intro w u M' s1 hw hu
  simp (disch := omega)
  exact ret_of (h w u M' s1 hw hu)
theorem drawCw_does (v : Value) (xs : List UInt8) (M : Mem) (R : Value → Mem → Prop) (hv : Rd M v (bytesV xs)) (hl : xs.length ≤ 4096) (h : ∀ w u M', Sub M M' → (w : List UInt8).length ≤ 300 → (u : List UInt8).length ≤ 300 → R (.tuple #[str w, str u]) M') : Does Tryz.prog 26 [v] M R := by
  refine does_fn tab_ok Tryz.func26 rfl (by kernel_rfl) (by kernel_rfl) Tryz.ntmps26 Tryz.results26 rfl ?_
  simp (disch := omega)
  refine two_does v xs _ _ hv hl ?_
  intro w u M' s1 hw hu
  simp (disch := omega)
  exact ret_of (h w u M' s1 hw hu)
theorem drawTw_does (v : Value) (xs : List UInt8) (M : Mem) (R : Value → Mem → Prop) (hv : Rd M v (bytesV xs)) (hl : xs.length ≤ 4096) (h : ∀ w k M', Sub M M' → (w : List UInt8).length ≤ 300 → R (.tuple #[str w, .int .i64 k]) M') : Does Tryz.prog 17 [v] M R := by
  refine does_fn tab_ok Tryz.func17 rfl (by kernel_rfl) (by kernel_rfl) Tryz.ntmps17 Tryz.results17 rfl ?_
  simp (disch := omega)
  refine from_does v xs _ _ hv hl ?_
  intro s M0 hs0 s0 hsrc
  have fin : ∀ M', DrR s M0 M' → Sub M M' := fun M' d => d.keep M hs0 s0
  simp (disch := omega)
  refine drawW_does s _ _ hsrc ?_
  intro w M1 hw dd
  simp (disch := omega)
  refine near_does s w.length _ _ dd.src (by omega) ?_
  intro k M2 e2
  have dd := dd.trans e2
  simp (disch := omega)
  refine bad_does s w _ _ dd.src (by omega) ?_
  intro w9 M3 hw9 e3
  simp (disch := omega)
  exact ret_of (h w9 k _ (fin _ (dd.trans e3)) (by omega))
theorem drawPw_does (v : Value) (xs : List UInt8) (M : Mem) (R : Value → Mem → Prop) (hv : Rd M v (bytesV xs)) (hl : xs.length ≤ 4096) (h : ∀ w k M', Sub M M' → (w : List UInt8).length ≤ 400 → R (.tuple #[str w, .int .i64 k]) M') : Does Tryz.prog 20 [v] M R := by
  refine does_fn tab_ok Tryz.func20 rfl (by kernel_rfl) (by kernel_rfl) Tryz.ntmps20 Tryz.results20 rfl ?_
  simp (disch := omega)
  refine from_does v xs _ _ hv hl ?_
  intro s M0 hs0 s0 hsrc
  have fin : ∀ M', DrR s M0 M' → Sub M M' := fun M' d => d.keep M hs0 s0
  have go : ∀ (w : List UInt8) (N : Mem), w.length ≤ 200 → DrR s M0 N → ∀ (b : Nat) (w9 : List UInt8) (N2 : Mem), w9.length ≤ 300 → DrR s M0 N2 → True := fun _ _ _ _ _ _ _ _ _ => trivial
  simp (disch := omega)
  refine small_does s _ _ hsrc ?_
  intro w M1 hw dd
  simp (disch := omega)
  refine nx_does s 4 _ _ dd.src ?_
  intro x M2 _ hx e2
  have dd := dd.trans e2
  by_cases x0 : x = 0
  · simp (disch := omega) [x0]
    refine spoil_does s _ _ dd.src ?_
    intro w M3 hw e3
    have dd := dd.trans e3
    simp (disch := omega)
    refine bad_does s w _ _ dd.src (by omega) ?_
    intro w9 M4 hw9 e4
    have dd := dd.trans e4
    simp (disch := omega)
    intro bn hbn
    simp (disch := omega)
    have r5 := rd_fresh dd.src (w := true) (xs := ints [0, 1, 2, 3, 4, 6, 60, 1000, -1, 1001]) (n := 10) (c := 10) hbn rfl (Nat.le_refl 10)
    have d3 : DrR s M0 (M4.put bn (.cells true (ints [0, 1, 2, 3, 4, 6, 60, 1000, -1, 1001]) 10)) := dd.trans (DrR.sub dd.src ((Sub.refl _).put hbn _))
    refine pick_does s _ [0, 1, 2, 3, 4, 6, 60, 1000, -1, 1001] _ _ d3.src r5 (by simp) (by simp) ?_
    intro z hz M5 e5
    simp (disch := omega)
    exact ret_of (h w9 z _ (fin _ (d3.trans e5)) (by omega))
  · simp (disch := omega) [x0]
    refine bad_does s w _ _ dd.src (by omega) ?_
    intro w9 M4 hw9 e4
    have dd := dd.trans e4
    simp (disch := omega)
    intro bn hbn
    simp (disch := omega)
    have r5 := rd_fresh dd.src (w := true) (xs := ints [0, 1, 2, 3, 4, 6, 60, 1000, -1, 1001]) (n := 10) (c := 10) hbn rfl (Nat.le_refl 10)
    have d3 : DrR s M0 (M4.put bn (.cells true (ints [0, 1, 2, 3, 4, 6, 60, 1000, -1, 1001]) 10)) := dd.trans (DrR.sub dd.src ((Sub.refl _).put hbn _))
    refine pick_does s _ [0, 1, 2, 3, 4, 6, 60, 1000, -1, 1001] _ _ d3.src r5 (by simp) (by simp) ?_
    intro z hz M5 e5
    simp (disch := omega)
    exact ret_of (h w9 z _ (fin _ (d3.trans e5)) (by omega))
end Go.Proofs.YtbefijbmgmbphaaGreat

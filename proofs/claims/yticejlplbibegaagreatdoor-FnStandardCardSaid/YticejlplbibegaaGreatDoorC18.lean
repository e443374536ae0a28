/- Contracts and laws: images and iterates. -/
import Derived.Test.YticejlplbibegaaGreatDoorC17
namespace Go.Proofs.YticejlplbibegaaGreatDoor
open Go
set_option linter.unusedSimpArgs false
set_option linter.unusedVariables false

theorem codeI_one (ws : List (List UInt8)) (w : List UInt8) : codeI ws w 1 = codeM ws w := by
  unfold codeI codeM
  rw [show decide ((0 : Int) ≤ 1 ∧ (1 : Int) ≤ 100) = true by decide, Bool.and_true]
theorem codeI_in {ws : List (List UInt8)} {w : List UInt8} {k : Int} : codeI ws w k = if codeM ws w = 0 then (if 0 ≤ k ∧ k ≤ 100 then 0 else 2) else codeM ws w := by
  unfold codeI codeM
  cases h1 : (isMor ws && isWord w)
  · rfl
  · cases h2 : fewB w ws.length
    · rfl
    · by_cases h3 : 0 ≤ k ∧ k ≤ 100
      · simp [h3]
      · simp [h3]
theorem impl_ImageOf (v : Value) (ws : List (List UInt8)) (w : List UInt8) (M : Mem) (R : Value → Mem → Prop) (hv : Rd M v (strs ws)) (hf : Fine ws) (hn : ws.length ≤ 1099511627776) (hl : w.length ≤ 1099511627776) (h : R (tup2 (str (iterT ws w 1)) (iterC ws w 1)) M) : Does Tryz.prog 8 [.agg #[v], str w] M R := by
  refine does_fn tab_ok Tryz.func8 rfl (by kernel_rfl) (by kernel_rfl) Tryz.ntmps8 Tryz.results8 rfl ?_
  obtain ⟨a, c, rfl, ha⟩ := hv.opened
  rw [strs_length] at hv ⊢
  simp (disch := omega)
  intro b1 hb1
  simp (disch := omega)
  refine iterate_does _ ws w 1 _ _ (hv.put hb1 _) hf hn hl ?_
  simp (disch := omega) [tup2]
  exact ret_sub ((Sub.refl M).put hb1 _) h
theorem impl_IterateOf (v : Value) (ws : List (List UInt8)) (w : List UInt8) (k : Int) (M : Mem) (R : Value → Mem → Prop) (hv : Rd M v (strs ws)) (hf : Fine ws) (hn : ws.length ≤ 1099511627776) (hl : w.length ≤ 1099511627776) (h : R (tup2 (str (iterT ws w k)) (iterC ws w k)) M) : Does Tryz.prog 11 [.agg #[v], str w, .int .i64 k] M R := by
  refine does_fn tab_ok Tryz.func11 rfl (by kernel_rfl) (by kernel_rfl) Tryz.ntmps11 Tryz.results11 rfl ?_
  obtain ⟨a, c, rfl, ha⟩ := hv.opened
  rw [strs_length] at hv ⊢
  simp (disch := omega)
  intro b1 hb1
  simp (disch := omega)
  refine iterate_does _ ws w k _ _ (hv.put hb1 _) hf hn hl ?_
  simp (disch := omega) [tup2]
  exact ret_sub ((Sub.refl M).put hb1 _) h
theorem spec_ImageOf (v : Value) (ws : List (List UInt8)) (w : List UInt8) (M : Mem) (R : Value → Mem → Prop) (hv : Rd M v (strs ws)) (hf : Fine ws) (hn : ws.length ≤ 1099511627776) (hl : w.length ≤ 1099511627776) (h : R (tup2 (str (iterT ws w 1)) (iterC ws w 1)) M) : Does Tryz.prog 9 [.agg #[v], str w] M R := by
  refine does_fn tab_ok Tryz.func9 rfl (by kernel_rfl) (by kernel_rfl) Tryz.ntmps9 Tryz.results9 rfl ?_
  obtain ⟨a, c, rfl, ha⟩ := hv.opened
  rw [strs_length] at hv ⊢
  simp (disch := omega)
  intro b1 hb1
  have hs := (Sub.refl M).put hb1 (.cells true [.slice a ws.length c] 1)
  simp (disch := omega)
  refine l06Code_does _ ws w _ _ (hv.put hb1 _) hf hn hl ?_
  unfold iterT iterC at h
  by_cases h0 : codeI ws w 1 = 0
  · obtain ⟨g1, g2, g3, _, _⟩ := codeI_zero h0
    rw [if_pos h0, if_pos h0, show (1 : Int).toNat = 1 from rfl, iterW_succ] at h
    rw [← codeI_one, h0]
    have hx := lt_of (isWord_all g2) g3
    have hil := img_len g1 hx
    have h60 := isWord_len g2
    simp (disch := omega)
    refine l06Image_does _ ws w _ _ (hv.put hb1 _) g1 h60 hx ?_
    by_cases hbig : 60 < (imgOf ws w).length
    · rw [if_pos hbig] at h
      have hbig' : (60 : Int) < (imgOf ws w).length := by omega
      simp (disch := omega) [hbig']
      exact ret_sub hs h
    · rw [if_neg hbig] at h
      have hbig' : ¬ (60 : Int) < (imgOf ws w).length := by omega
      simp (disch := omega) [hbig']
      exact ret_sub hs h
  · rw [if_neg h0, if_neg h0] at h
    rw [← codeI_one]
    generalize codeI ws w 1 = code at *
    simp (disch := omega) [h0]
    exact ret_sub hs h
theorem spec_IterateOf (v : Value) (ws : List (List UInt8)) (w : List UInt8) (k : Int) (M : Mem) (R : Value → Mem → Prop) (hv : Rd M v (strs ws)) (hf : Fine ws) (hn : ws.length ≤ 1099511627776) (hl : w.length ≤ 1099511627776) (h : R (tup2 (str (iterT ws w k)) (iterC ws w k)) M) : Does Tryz.prog 12 [.agg #[v], str w, .int .i64 k] M R := by
  refine does_fn tab_ok Tryz.func12 rfl (by kernel_rfl) (by kernel_rfl) Tryz.ntmps12 Tryz.results12 rfl ?_
  obtain ⟨a, c, rfl, ha⟩ := hv.opened
  rw [strs_length] at hv ⊢
  simp (disch := omega)
  intro b1 hb1
  have hs := (Sub.refl M).put hb1 (.cells true [.slice a ws.length c] 1)
  have hv1 := hv.put hb1 (.cells true [.slice a ws.length c] 1)
  have k1 : (M.put b1 (.cells true [.slice a ws.length c] 1)) b1 = some (.cells true [.slice a ws.length c] 1) := put_same _ _ _
  simp (disch := omega)
  generalize M.put b1 (.cells true [.slice a ws.length c] 1) = N at *
  refine l06Code_does _ ws w _ _ hv1 hf hn hl ?_
  unfold iterT iterC at h
  have hin := codeI_in (ws := ws) (w := w) (k := k)
  by_cases h0 : codeM ws w = 0
  · rw [if_pos h0] at hin
    have hb : (codeM ws w == 0) = true := by rw [h0]; rfl
    rw [h0]
    simp (disch := omega)
    refine l01In_does k 0 100 _ _ ?_
    by_cases hk : 0 ≤ k ∧ k ≤ 100
    · rw [if_pos hk] at hin
      rw [decide_eq_true hk]
      rw [if_pos hin, if_pos hin] at h
      obtain ⟨g1, g2, g3, _, _⟩ := codeI_zero hin
      obtain ⟨k, rfl⟩ : ∃ n : Nat, k = n := ⟨k.toNat, by omega⟩
      rw [Int.toNat_natCast] at h
      simp (disch := omega)
      refine loop_to tab_ok [1, 2, 6, 7, 22, 23, 24, 25, 26, 27, 28, 29, 30, 31] (fun x : Nat × List UInt8 => [(2, .int .i64 x.1), (1, str x.2)]) (fun x M' => M' = N ∧ x.1 ≤ k ∧ x.2.length ≤ 60 ∧ Lt ws x.2 ∧ iterW ws x.1 x.2 = iterW ws k w) (fun x => x.1) (k, w) (by kernel_rfl) (by simp (disch := omega)) ⟨rfl, by simp, isWord_len g2, lt_of (isWord_all g2) g3, rfl⟩ ?_
      rintro ⟨i, x⟩ M' g ⟨rfl, hi, hx6, hx, hit⟩
      simp only at hi hx6 hx hit
      cases i with
      | zero =>
        rw [iterW_zero] at hit
        rw [← hit] at h
        simp (disch := omega)
        exact ret_sub hs h
      | succ i =>
        have hil := img_len g1 hx
        rw [iterW_succ] at hit
        simp (disch := omega) [sub_of k1]
        refine l06Image_does _ ws x _ _ hv1 g1 hx6 hx ?_
        by_cases hbig : 60 < (imgOf ws x).length
        · rw [if_pos hbig] at hit
          have hbig' : (60 : Int) < (imgOf ws x).length := by omega
          rw [← hit] at h
          simp (disch := omega) [hbig']
          exact ret_sub hs h
        · rw [if_neg hbig] at hit
          have hbig' : ¬ (60 : Int) < (imgOf ws x).length := by omega
          simp (disch := omega) [hbig']
          exact Rnd.mk' (i, imgOf ws x) (by simp only; omega) (by (repeat (first | exact km | refine kp rfl ?_ | refine km' rfl ?_))) (by simp (disch := omega)) ⟨rfl, by simp only; omega, by simp only; omega, img_lt g1 hx, hit⟩
    · rw [if_neg hk] at hin
      have hne : ¬ codeI ws w k = 0 := by rw [hin]; decide
      rw [decide_eq_false hk]
      rw [if_neg hne, if_neg hne, hin] at h
      simp (disch := omega)
      exact ret_sub hs h
  · rw [if_neg h0] at hin
    have hb : (codeM ws w == 0) = false := beq_eq_false_iff_ne.2 h0
    rw [if_neg (by rw [hin]; exact h0), if_neg (by rw [hin]; exact h0), hin] at h
    generalize codeM ws w = code at *
    simp (disch := omega) [hb, h0]
    exact ret_sub hs h
end Go.Proofs.YticejlplbibegaaGreatDoor

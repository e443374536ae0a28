/- Contracts and laws: images and iterates. -/
import Derived.Test.YtdelkgjgcdbipaaC17
namespace Go.Proofs.Ytdelkgjgcdbipaa
open Go
set_option linter.unusedSimpArgs false
set_option linter.unusedVariables false

theorem codeI_one (ws : List (List UInt8)) (w : List UInt8) : codeI ws w 1 = codeM ws w := by
  unfold codeI codeM
  rw [show decide ((0 : Int) ≤ 1 ∧ (1 : Int) ≤ 100) = true by decide, Bool.and_true]
theorem codeI_in {ws : List (List UInt8)} {w : List UInt8} {k : Int} : codeI ws w k = if codeM ws w = 0 then (if 0 ≤ k ∧ k ≤ 100 then 0 else 2) else codeM ws w := by
  unfold codeI codeM
  cases h1 : (isMor ws && isWord w)
  · rfl
  · cases h2 : fewB w ws.length
    · rfl
    · by_cases h3 : 0 ≤ k ∧ k ≤ 100
      · simp [h3]
      · simp [h3]
theorem impl_ImageOf (v : Value) (ws : List (List UInt8)) (w : List UInt8) (M : Mem) (R : Value → Mem → Prop) (hv : Rd M v (strs ws)) (hf : Fine ws) (hn : ws.length ≤ 1099511627776) (hl : w.length ≤ 1099511627776) (h : R (tup2 (str (iterT ws w 1)) (iterC ws w 1)) M) : Does Try.prog 23 [.agg #[v], str w] M R := by
  refine does_fn tab_ok Try.func23 rfl (by kernel_rfl) (by kernel_rfl) Try.ntmps23 Try.results23 rfl ?_
  obtain ⟨a, c, rfl, ha⟩ := hv.opened
  rw [strs_length] at hv ⊢
  simp (disch := omega)
  intro b1 hb1
  simp (disch := omega)
  refine iterate_does _ ws w 1 _ _ (hv.put hb1 _) hf hn hl ?_
  simp (disch := omega) [tup2]
  exact ret_sub ((Sub.refl M).put hb1 _) h
theorem impl_IterateOf (v : Value) (ws : List (List UInt8)) (w : List UInt8) (k : Int) (M : Mem) (R : Value → Mem → Prop) (hv : Rd M v (strs ws)) (hf : Fine ws) (hn : ws.length ≤ 1099511627776) (hl : w.length ≤ 1099511627776) (h : R (tup2 (str (iterT ws w k)) (iterC ws w k)) M) : Does Try.prog 30 [.agg #[v], str w, .int .i64 k] M R := by
  refine does_fn tab_ok Try.func30 rfl (by kernel_rfl) (by kernel_rfl) Try.ntmps30 Try.results30 rfl ?_
  obtain ⟨a, c, rfl, ha⟩ := hv.opened
  rw [strs_length] at hv ⊢
  simp (disch := omega)
  intro b1 hb1
  simp (disch := omega)
  refine iterate_does _ ws w k _ _ (hv.put hb1 _) hf hn hl ?_
  simp (disch := omega) [tup2]
  exact ret_sub ((Sub.refl M).put hb1 _) h
theorem spec_ImageOf (v : Value) (ws : List (List UInt8)) (w : List UInt8) (M : Mem) (R : Value → Mem → Prop) (hv : Rd M v (strs ws)) (hf : Fine ws) (hn : ws.length ≤ 1099511627776) (hl : w.length ≤ 1099511627776) (h : R (tup2 (str (iterT ws w 1)) (iterC ws w 1)) M) : Does Try.prog 21 [.agg #[v], str w] M R := by
  refine does_fn tab_ok Try.func21 rfl (by kernel_rfl) (by kernel_rfl) Try.ntmps21 Try.results21 rfl ?_
  obtain ⟨a, c, rfl, ha⟩ := hv.opened
  rw [strs_length] at hv ⊢
  simp (disch := omega)
  intro b1 hb1
  have hs := (Sub.refl M).put hb1 (.cells true [.slice a ws.length c] 1)
  simp (disch := omega)
  refine l06Code_does _ ws w _ _ (hv.put hb1 _) hf hn hl ?_
  unfold iterT iterC at h
  by_cases h0 : codeI ws w 1 = 0
  · obtain ⟨g1, g2, g3, _, _⟩ := codeI_zero h0
    rw [if_pos h0, if_pos h0, show (1 : Int).toNat = 1 from rfl, iterW_succ] at h
    rw [← codeI_one, h0]
    have hx := lt_of (isWord_all g2) g3
    have hil := img_len g1 hx
    have h60 := isWord_len g2
    simp (disch := omega)
    refine l06Image_does _ ws w _ _ (hv.put hb1 _) g1 h60 hx ?_
    by_cases hbig : 60 < (imgOf ws w).length
    · rw [if_pos hbig] at h
      have hbig' : (60 : Int) < (imgOf ws w).length := by omega
      simp (disch := omega) [hbig']
      exact ret_sub hs h
    · rw [if_neg hbig] at h
      have hbig' : ¬ (60 : Int) < (imgOf ws w).length := by omega
      simp (disch := omega) [hbig']
      exact ret_sub hs h
  · rw [if_neg h0, if_neg h0] at h
    rw [← codeI_one]
    generalize codeI ws w 1 = code at *
    simp (disch := omega) [h0]
    exact ret_sub hs h
theorem spec_IterateOf (v : Value) (ws : List (List UInt8)) (w : List UInt8) (k : Int) (M : Mem) (R : Value → Mem → Prop) (hv : Rd M v (strs ws)) (hf : Fine ws) (hn : ws.length ≤ 1099511627776) (hl : w.length ≤ 1099511627776) (h : R (tup2 (str (iterT ws w k)) (iterC ws w k)) M) : Does Try.prog 29 [.agg #[v], str w, .int .i64 k] M R := by
  refine does_fn tab_ok Try.func29 rfl (by kernel_rfl) (by kernel_rfl) Try.ntmps29 Try.results29 rfl ?_
  obtain ⟨a, c, rfl, ha⟩ := hv.opened
  rw [strs_length] at hv ⊢
  simp (disch := omega)
  intro b1 hb1
  have hs := (Sub.refl M).put hb1 (.cells true [.slice a ws.length c] 1)
  have hv1 := hv.put hb1 (.cells true [.slice a ws.length c] 1)
  have k1 : (M.put b1 (.cells true [.slice a ws.length c] 1)) b1 = some (.cells true [.slice a ws.length c] 1) := put_same _ _ _
  simp (disch := omega)
  generalize M.put b1 (.cells true [.slice a ws.length c] 1) = N at *
  refine l06Code_does _ ws w _ _ hv1 hf hn hl ?_
  unfold iterT iterC at h
  have hin := codeI_in (ws := ws) (w := w) (k := k)
  by_cases h0 : codeM ws w = 0
  · rw [if_pos h0] at hin
    have hb : (codeM ws w == 0) = true := by rw [h0]; rfl
    rw [h0]
    simp (disch := omega)
    refine l01In_does k 0 100 _ _ ?_
    by_cases hk : 0 ≤ k ∧ k ≤ 100
    · rw [if_pos hk] at hin
      rw [decide_eq_true hk]
      rw [if_pos hin, if_pos hin] at h
      obtain ⟨g1, g2, g3, _, _⟩ := codeI_zero hin
      obtain ⟨k, rfl⟩ : ∃ n : Nat, k = n := ⟨k.toNat, by omega⟩
      rw [Int.toNat_natCast] at h
      simp (disch := omega)
      refine loop_to tab_ok [1, 2, 6, 7, 22, 23, 24, 25, 26, 27, 28, 29, 30, 31] (fun x : Nat × List UInt8 => [(2, .int .i64 x.1), (1, str x.2)]) (fun x M' => M' = N ∧ x.1 ≤ k ∧ x.2.length ≤ 60 ∧ Lt ws x.2 ∧ iterW ws x.1 x.2 = iterW ws k w) (fun x => x.1) (k, w) (by kernel_rfl) (by simp (disch := omega)) ⟨rfl, by simp, isWord_len g2, lt_of (isWord_all g2) g3, rfl⟩ ?_
      rintro ⟨i, x⟩ M' g ⟨rfl, hi, hx6, hx, hit⟩
      simp only at hi hx6 hx hit
      cases i with
      | zero =>
        rw [iterW_zero] at hit
        rw [← hit] at h
        simp (disch := omega)
        exact ret_sub hs h
      | succ i =>
        have hil := img_len g1 hx
        rw [iterW_succ] at hit
        simp (disch := omega) [sub_of k1]
        refine l06Image_does _ ws x _ _ hv1 g1 hx6 hx ?_
        by_cases hbig : 60 < (imgOf ws x).length
        · rw [if_pos hbig] at hit
          have hbig' : (60 : Int) < (imgOf ws x).length := by omega
          rw [← hit] at h
          simp (disch := omega) [hbig']
          exact ret_sub hs h
        · rw [if_neg hbig] at hit
          have hbig' : ¬ (60 : Int) < (imgOf ws x).length := by omega
          simp (disch := omega) [hbig']
          exact Rnd.mk' (i, imgOf ws x) (by simp only; omega) (by (repeat (first | exact km | refine kp rfl ?_ | refine km' rfl ?_))) (by simp (disch := omega)) ⟨rfl, by simp only; omega, by simp only; omega, img_lt g1 hx, hit⟩
    · rw [if_neg hk] at hin
      have hne : ¬ codeI ws w k = 0 := by rw [hin]; decide
      rw [decide_eq_false hk]
      rw [if_neg hne, if_neg hne, hin] at h
      simp (disch := omega)
      exact ret_sub hs h
  · rw [if_neg h0] at hin
    have hb : (codeM ws w == 0) = false := beq_eq_false_iff_ne.2 h0
    rw [if_neg (by rw [hin]; exact h0), if_neg (by rw [hin]; exact h0), hin] at h
    generalize codeM ws w = code at *
    simp (disch := omega) [hb, h0]
    exact ret_sub hs h
theorem law_ImageOf (v : Value) (ws : List (List UInt8)) (l : List UInt8) (M : Mem) (R : Value → Mem → Prop) (hv : Rd M v (strs ws)) (hn : ws.length ≤ 9223372036854775807) (hw : ∀ w ∈ ws, w.length ≤ 9223372036854775807) (hl : l.length ≤ 140737488351232) (h : ∀ M', Sub M M' → R (.bool true) M') : Does Try.prog 4 [.agg #[v], str l] M R := by
  refine does_fn tab_ok Try.func4 rfl (by kernel_rfl) (by kernel_rfl) Try.ntmps4 Try.results4 rfl ?_
  obtain ⟨a, c, rfl, ha⟩ := hv.opened
  rw [strs_length] at ha hv ⊢
  simp (disch := omega)
  intro b1 hb1
  have hs1 : Sub M (M.put b1 (.cells true [.slice a ws.length c] 1)) := (Sub.refl M).put hb1 _
  have k1 : (M.put b1 (.cells true [.slice a ws.length c] 1)) b1 = some (.cells true [.slice a ws.length c] 1) := put_same _ _ _
  have hv1 := hv.put hb1 (.cells true [.slice a ws.length c] 1)
  generalize M.put b1 (.cells true [.slice a ws.length c] 1) = N1 at *
  by_cases hz : (1048576 : Int) < l.length
  · simp (disch := omega) [hz]
    exact ret_sub hs1 (h _ (Sub.refl _))
  simp (disch := omega) [hz, sub_of k1]
  refine szMorphism_does _ ws 1048576 _ _ hv1 hn hw (by omega) ?_ ?_
  · intro hle
    obtain ⟨p, hp⟩ : ∃ p, p = 1048576 - (ws.length + sumL ws) := ⟨_, rfl⟩
    rw [← hp]
    have hsm : ws.length ≤ 1048576 := by omega
    have hfine : Fine ws := fun w hw => by have := sumL_mem hw; omega
    simp (disch := omega) [sub_of k1]
    refine toMorphism_does _ ws _ _ hv1 hsm ?_
    intro v2 N2 o2
    have k2 := o2.sub _ _ k1
    simp (disch := omega)
    refine spec_ImageOf v2 ws l _ _ o2.rd hfine (by omega) (by omega) ?_
    simp (disch := omega) [tup2, sub_of k2]
    refine toMorphism_does _ ws _ _ (hv1.sub o2.sub) hsm ?_
    intro v3 N3 o3
    have k3 := o3.sub _ _ k2
    obtain ⟨a3, c3, rfl, _⟩ := o3.rd.opened
    rw [strs_length] at o3 ⊢
    simp (disch := omega)
    intro b5 hb5
    have hne : b1 ≠ b5 := by rintro rfl; rw [k3] at hb5; cases hb5
    simp (disch := omega)
    refine impl_ImageOf _ ws l _ _ (o3.rd.put hb5 _) hfine (by omega) (by omega) ?_
    simp (disch := omega) [tup2]
    have k4 : (N3.put b5 (.cells true [.slice a3 ws.length c3] 1)) b1 = some (.cells true [.slice a ws.length c] 1) := by rw [put_ne _ _ hne]; exact k3
    have hv4 := (((hv1.sub o2.sub).sub o3.sub).put hb5 (.cells true [.slice a3 ws.length c3] 1))
    have o4 := o3.rd.put hb5 (.cells true [.slice a3 ws.length c3] 1)
    have s4 := (((hs1.trans o2.sub).trans o3.sub).putN hb5 (.cells true [.slice a3 ws.length c3] 1))
    have k5 : (N3.put b5 (.cells true [.slice a3 ws.length c3] 1)) b5 = some (.cells true [.slice a3 ws.length c3] 1) := put_same _ _ _
    generalize N3.put b5 (.cells true [.slice a3 ws.length c3] 1) = N4 at *
    refine draws_to 2 1 tab_ok (by kernel_rfl) (by kernel_rfl) (by rfl) ?_
    simp (disch := omega) [sub_of k5, sub_of k4]
    refine toMorphism_does _ ws _ _ hv4 hsm ?_
    intro v6 N6 o6
    simp (disch := omega)
    refine ⟨o6.sub, ?_⟩
    refine eqMorphism_does _ _ ws ws _ _ (o4.sub o6.sub) o6.rd (by omega) (by omega) ?_
    simp (disch := omega)
    exact ret_of (h _ (s4.trans o6.sub))
  · intro hlt
    simp (disch := omega)
    exact ret_sub hs1 (h _ (Sub.refl _))
theorem law_IterateOf (v : Value) (ws : List (List UInt8)) (l : List UInt8) (k : Int) (M : Mem) (R : Value → Mem → Prop) (hv : Rd M v (strs ws)) (hn : ws.length ≤ 9223372036854775807) (hw : ∀ w ∈ ws, w.length ≤ 9223372036854775807) (hl : l.length ≤ 140737488351232) (hk : -9223372036854775808 ≤ k ∧ k ≤ 9223372036854775807) (h : ∀ M', Sub M M' → R (.bool true) M') : Does Try.prog 7 [.agg #[v], str l, .int .i64 k] M R := by
  refine does_fn tab_ok Try.func7 rfl (by kernel_rfl) (by kernel_rfl) Try.ntmps7 Try.results7 rfl ?_
  obtain ⟨a, c, rfl, ha⟩ := hv.opened
  rw [strs_length] at ha hv ⊢
  simp (disch := omega)
  intro b1 hb1
  have hs1 : Sub M (M.put b1 (.cells true [.slice a ws.length c] 1)) := (Sub.refl M).put hb1 _
  have k1 : (M.put b1 (.cells true [.slice a ws.length c] 1)) b1 = some (.cells true [.slice a ws.length c] 1) := put_same _ _ _
  have hv1 := hv.put hb1 (.cells true [.slice a ws.length c] 1)
  generalize M.put b1 (.cells true [.slice a ws.length c] 1) = N1 at *
  by_cases hz : (1048576 : Int) < l.length
  · simp (disch := omega) [hz]
    exact ret_sub hs1 (h _ (Sub.refl _))
  simp (disch := omega) [hz, sub_of k1]
  refine szMorphism_does _ ws 1048576 _ _ hv1 hn hw (by omega) ?_ ?_
  · intro hle
    obtain ⟨p, hp⟩ : ∃ p, p = 1048576 - (ws.length + sumL ws) := ⟨_, rfl⟩
    rw [← hp]
    have hsm : ws.length ≤ 1048576 := by omega
    have hfine : Fine ws := fun w hw => by have := sumL_mem hw; omega
    simp (disch := omega) [sub_of k1]
    refine toMorphism_does _ ws _ _ hv1 hsm ?_
    intro v2 N2 o2
    have k2 := o2.sub _ _ k1
    simp (disch := omega)
    refine spec_IterateOf v2 ws l k _ _ o2.rd hfine (by omega) (by omega) ?_
    simp (disch := omega) [tup2, sub_of k2]
    refine toMorphism_does _ ws _ _ (hv1.sub o2.sub) hsm ?_
    intro v3 N3 o3
    have k3 := o3.sub _ _ k2
    obtain ⟨a3, c3, rfl, _⟩ := o3.rd.opened
    rw [strs_length] at o3 ⊢
    simp (disch := omega)
    intro b5 hb5
    have hne : b1 ≠ b5 := by rintro rfl; rw [k3] at hb5; cases hb5
    simp (disch := omega)
    refine impl_IterateOf _ ws l k _ _ (o3.rd.put hb5 _) hfine (by omega) (by omega) ?_
    simp (disch := omega) [tup2]
    have k4 : (N3.put b5 (.cells true [.slice a3 ws.length c3] 1)) b1 = some (.cells true [.slice a ws.length c] 1) := by rw [put_ne _ _ hne]; exact k3
    have hv4 := (((hv1.sub o2.sub).sub o3.sub).put hb5 (.cells true [.slice a3 ws.length c3] 1))
    have o4 := o3.rd.put hb5 (.cells true [.slice a3 ws.length c3] 1)
    have s4 := (((hs1.trans o2.sub).trans o3.sub).putN hb5 (.cells true [.slice a3 ws.length c3] 1))
    have k5 : (N3.put b5 (.cells true [.slice a3 ws.length c3] 1)) b5 = some (.cells true [.slice a3 ws.length c3] 1) := put_same _ _ _
    generalize N3.put b5 (.cells true [.slice a3 ws.length c3] 1) = N4 at *
    refine draws_to 2 1 tab_ok (by kernel_rfl) (by kernel_rfl) (by rfl) ?_
    simp (disch := omega) [sub_of k5, sub_of k4]
    refine toMorphism_does _ ws _ _ hv4 hsm ?_
    intro v6 N6 o6
    simp (disch := omega)
    refine ⟨o6.sub, ?_⟩
    refine eqMorphism_does _ _ ws ws _ _ (o4.sub o6.sub) o6.rd (by omega) (by omega) ?_
    simp (disch := omega)
    exact ret_of (h _ (s4.trans o6.sub))
  · intro hlt
    simp (disch := omega)
    exact ret_sub hs1 (h _ (Sub.refl _))
end Go.Proofs.Ytdelkgjgcdbipaa

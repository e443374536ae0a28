/- Draws: lists of letters; words and lists of letters. -/
import Derived.Test.YtbefijbmgmbphaaGreatC67
namespace Go.Proofs.YtbefijbmgmbphaaGreat
open Go
set_option linter.unusedSimpArgs false
set_option linter.unusedVariables false

theorem drawRl_does (v : Value) (xs : List UInt8) (M : Mem) (R : Value → Mem → Prop) (hv : Rd M v (bytesV xs)) (hl : xs.length ≤ 4096) (h : ∀ w v' zs M', Sub M M' → (w : List UInt8).length ≤ 300 → (zs : List Int).length ≤ 100 → Rd M' v' (ints zs) → R (.tuple #[str w, v']) M') : Does Tryz.prog 23 [v] M R := by
  refine does_fn tab_ok Tryz.func23 rfl (by kernel_rfl) (by kernel_rfl) Tryz.ntmps23 Tryz.results23 rfl ?_
  simp (disch := omega)
  refine from_does v xs _ _ hv hl ?_
  intro s M0 hs0 s0 hsrc
  have fin : ∀ M', DrR s M0 M' → Sub M M' := fun M' d => d.keep M hs0 s0
  simp (disch := omega)
  refine spoil_does s _ _ hsrc ?_
  intro w M1 hw dd
  simp (disch := omega)
  intro b0 hb0
  have o0 : Own M1 (.slice (some ⟨b0, 0, none⟩) 0 0) (ints []) (M1.put b0 (.cells true [] 0)) := Own.new hb0 rfl (Nat.le_refl 0)
  simp (disch := omega)
  generalize M1.put b0 (.cells true [] 0) = N0 at *
  generalize Value.slice (some ⟨b0, 0, none⟩) 0 0 = v0 at *
  refine loop_to tab_ok [6, 7, 13, 14, 15, 16, 17, 18, 19, 20, 21] (fun x : Value × List Int => [(7, .int .i64 (x.2.length : Nat)), (6, x.1)]) (fun x M' => x.2.length ≤ 5 ∧ ∃ Mb, DrR s M0 Mb ∧ Own Mb x.1 (ints x.2) M') (fun x => 5 - x.2.length) (v0, []) (by kernel_rfl) (by simp (disch := omega)) ⟨by simp, M1, dd, o0⟩ ?_
  rintro ⟨v1, zs⟩ M' g ⟨hz, Mb, db, ho⟩
  simp only at hz ho
  by_cases hlt : zs.length < 5
  · simp (disch := omega)
    refine nx_does s 5 _ _ (db.src.sub ho.sub) ?_
    intro y N2 _ _ e2
    obtain ⟨Mb2, M2, o2, z2, d2⟩ := own_draw ho db.src (Sub.refl M') e2
    simp (disch := omega)
    intro b' hb'
    simp (disch := omega)
    refine app_own o2 (z2.trans ((Sub.refl _).put hb' _)) (by simp (disch := omega); rfl) rfl rfl (by omega) (by simp (disch := omega)) (by simp (disch := omega); omega) ?_
    intro v' M'' N'' ho' hs'
    have hln : (zs ++ [y]).length = zs.length + 1 := by rw [List.length_append, List.length_singleton]
    have ho2 : Own Mb2 v' (ints (zs ++ [y])) M'' := by rw [← ints_append]; exact ho'
    simp (disch := omega)
    refine Rnd.mk'' M'' (v', zs ++ [y]) hs' (by rw [hln]; omega) (by (repeat (first | exact km | refine kp rfl ?_ | refine km' rfl ?_))) (by simp (disch := omega)) ⟨by rw [hln]; omega, Mb2, db.trans d2, ho2⟩
  · have h5 : zs.length = 5 := by omega
    simp (disch := omega)
    refine nx_does s 16 _ _ (db.src.sub ho.sub) ?_
    intro x N2 _ _ e2
    obtain ⟨Mb2, M2, o2, z2, d2⟩ := own_draw ho db.src (Sub.refl M') e2
    have sM : Sub M N2 := (fin _ (db.trans d2)).trans (o2.sub.trans z2)
    by_cases x0 : x = 0
    · simp (disch := omega) [x0]
      intro b' hb'
      simp (disch := omega)
      refine app_own o2 (z2.trans ((Sub.refl _).put hb' _)) (by simp (disch := omega); rfl) rfl rfl (by omega) (by simp (disch := omega)) (by simp (disch := omega); omega) ?_
      intro v' M'' N'' ho' hs'
      have ho2 : Own Mb2 v' (ints (zs ++ [0])) M'' := by rw [← ints_append]; exact ho'
      simp (disch := omega)
      exact ret_of (h w v' (zs ++ [0]) _ (((fin _ (db.trans d2)).trans ho2.sub).trans hs') (by omega) (by rw [List.length_append, List.length_singleton]; omega) (ho2.rd.sub hs'))
    · by_cases x1 : x = 1
      · simp (disch := omega) [x1]
        refine nx_does s 5 _ _ e2.src ?_
        intro j N3 _ hj e3
        have hj := hj (by omega)
        obtain ⟨Mb3, M3, o3, z3, d3⟩ := own_draw o2 (db.trans d2).src z2 e3
        simp (disch := omega)
        intro b' hb'
        simp (disch := omega)
        have sP := (Sub.refl N3).put hb' (.cells true (ints [-1, 5]) 2)
        have r5 := rd_fresh e3.src (w := true) (xs := ints [-1, 5]) (n := 2) (c := 2) hb' rfl (Nat.le_refl 2)
        refine pick_does s _ [-1, 5] _ _ (e3.src.sub sP) r5 (by simp) (by simp) ?_
        intro z _ N4 e4
        obtain ⟨Mb4, M4, o4, z4, d4⟩ := own_draw o3 ((db.trans d2).trans d3).src (z3.trans sP) e4
        have sB : Sub M Mb4 := fin _ (((db.trans d2).trans d3).trans d4)
        obtain ⟨j, rfl⟩ : ∃ i : Nat, j = i := ⟨j.toNat, by omega⟩
        rcases o4 with ⟨_, he, _⟩ | ⟨b, c, rfl, hb, hc, rfl⟩
        · have := congrArg List.length he
          rw [ints_length] at this
          rw [List.length_nil] at this; omega
        have kb : N4 b = some (.cells true (ints zs) c) := z4 _ _ (put_same _ _ _)
        have hMb : M b = none := none_of sB hb
        rw [ints_length] at hc
        have sF : Sub M (N4.put b (.cells true (ints (zs.set j z)) c)) := by
          intro i B hi
          have e : i ≠ b := by rintro rfl; rw [hMb] at hi; cases hi
          rw [put_ne _ _ e]
          exact z4 _ _ ((sB.trans ((Sub.refl Mb4).put hb _)) _ _ hi)
        have rF : Rd (N4.put b (.cells true (ints (zs.set j z)) c)) (.slice (some ⟨b, 0, none⟩) (ints zs).length c) (ints (zs.set j z)) := by
          refine .inr ⟨b, 0, c, by rw [ints_length, ints_length, List.length_set], ?_, by rw [ints_length, List.length_set]; exact hc⟩
          rw [sub_of (put_same _ _ _), optIf, if_pos (by omega), List.drop_zero, List.take_length]
        have hj5 : j < zs.length := by omega
        rw [ints_length] at rF
        simp (disch := omega) [kb, ints_set, set_is]
        exact ret_of (h w _ (zs.set j z) _ sF (by omega) (by rw [List.length_set]; omega) rF)
      · simp (disch := omega) [x0, x1]
        exact ret_of (h w v1 zs _ sM (by omega) (by omega) (o2.rd.sub z2))
theorem drawWl_does (v : Value) (xs : List UInt8) (M : Mem) (R : Value → Mem → Prop) (hv : Rd M v (bytesV xs)) (hl : xs.length ≤ 4096) (h : ∀ v' zs M', Sub M M' → (zs : List Int).length ≤ 100 → Rd M' v' (ints zs) → R v' M') : Does Tryz.prog 31 [v] M R := by
  refine does_fn tab_ok Tryz.func31 rfl (by kernel_rfl) (by kernel_rfl) Tryz.ntmps31 Tryz.results31 rfl ?_
  simp (disch := omega)
  refine from_does v xs _ _ hv hl ?_
  intro s M0 hs0 s0 hsrc
  have fin : ∀ M', DrR s M0 M' → Sub M M' := fun M' d => d.keep M hs0 s0
  simp (disch := omega)
  intro b0 hb0
  have o0 : Own M0 (.slice (some ⟨b0, 0, none⟩) 0 0) (ints []) (M0.put b0 (.cells true [] 0)) := Own.new hb0 rfl (Nat.le_refl 0)
  simp (disch := omega)
  generalize M0.put b0 (.cells true [] 0) = N0 at *
  generalize Value.slice (some ⟨b0, 0, none⟩) 0 0 = v0 at *
  intro b1 hb1
  simp (disch := omega)
  have r1 := rd_fresh (hsrc.sub o0.sub) (w := true) (xs := ints [6, 20, 62]) (n := 3) (c := 3) hb1 rfl (Nat.le_refl 3)
  have s1 := (Sub.refl N0).put hb1 (.cells true (ints [6, 20, 62]) 3)
  refine pick_does s _ [6, 20, 62] _ _ ((hsrc.sub o0.sub).sub s1) r1 (by simp) (by simp) ?_
  intro z hz N1 e1
  have hz : 1 ≤ z ∧ z ≤ 62 := by
    simp only [List.mem_cons, List.not_mem_nil, or_false] at hz
    omega
  obtain ⟨Mb1, K1, o1, z1, d1⟩ := own_draw o0 hsrc s1 e1
  simp (disch := omega)
  refine nx_does s z _ _ e1.src ?_
  intro n N2 _ hn e2
  have hn := hn (by omega)
  obtain ⟨Mb2, K2, o2, z2, d2⟩ := own_draw o1 d1.src z1 e2
  obtain ⟨n, rfl⟩ : ∃ i : Nat, n = i := ⟨n.toNat, by omega⟩
  simp (disch := omega)
  refine loop_to tab_ok [4, 5, 14, 15, 16, 17, 18, 19, 20, 21, 22] (fun x : Value × List Int => [(5, .int .i64 ((n : Int) - x.2.length)), (4, x.1)]) (fun x M' => x.2.length ≤ n ∧ ∃ Mb K, DrR s M0 Mb ∧ Own Mb x.1 (ints x.2) K ∧ Sub K M' ∧ SrcR M' s) (fun x => n - x.2.length) (v0, []) (by kernel_rfl) (by simp (disch := omega)) ⟨by simp, Mb2, K2, d1.trans d2, o2, z2, e2.src⟩ ?_
  rintro ⟨v1, zs⟩ M' g ⟨hz1, Mb, K, db, ho, zK, src⟩
  simp only at hz1 ho
  by_cases hlt : zs.length < n
  · have hg0 : (0 : Int) < (n : Int) - zs.length := by omega
    simp (disch := omega) [hg0]
    refine nx_does s 5 _ _ src ?_
    intro y N3 _ _ e3
    obtain ⟨Mb3, K3, o3, z3, d3⟩ := own_draw ho db.src zK e3
    simp (disch := omega)
    intro b' hb'
    simp (disch := omega)
    refine app_own o3 (z3.trans ((Sub.refl _).put hb' _)) (by simp (disch := omega); rfl) rfl rfl (by omega) (by simp (disch := omega)) (by simp (disch := omega); omega) ?_
    intro v' M'' N'' ho' hs'
    have hln : (zs ++ [y]).length = zs.length + 1 := by rw [List.length_append, List.length_singleton]
    have ho2 : Own Mb3 v' (ints (zs ++ [y])) M'' := by rw [← ints_append]; exact ho'
    simp (disch := omega)
    refine Rnd.mk'' M'' (v', zs ++ [y]) hs' (by rw [hln]; omega) (by (repeat (first | exact km | refine kp rfl ?_ | refine km' rfl ?_))) (by simp (disch := omega) [hln]; omega) (by
      have e1 := hln
      have e2 := (db.trans d3).src.sub ho2.sub
      exact ⟨by show (zs ++ [y]).length ≤ n; omega, Mb3, db.trans d3, M'', ho2, Sub.refl _, e2⟩)
  · have hn' : n = zs.length := by omega
    subst hn'
    have hg0 : ¬ (0 : Int) < (zs.length : Int) - zs.length := by omega
    have sM : Sub M M' := (fin _ db).trans (ho.sub.trans zK)
    have rM := ho.rd.sub zK
    obtain ⟨av, cv, rfl, _⟩ := rM.opened
    rw [ints_length] at rM ⊢
    by_cases hz0 : zs.length = 0
    · have hz0' : ¬ (0 : Int) < zs.length := by omega
      simp (disch := omega) [hg0, hz0, hz0']
      rw [hz0] at rM
      exact ret_of (h _ zs _ sM (by omega) rM)
    · have hz0' : (0 : Int) < zs.length := by omega
      simp (disch := omega) [hg0, hz0']
      refine nx_does s 10 _ _ src ?_
      intro x N3 _ _ e3
      obtain ⟨Mb3, K3, o3, z3, d3⟩ := own_draw ho db.src zK e3
      by_cases x0 : x = 0
      · simp (disch := omega) [x0]
        refine nx_does s _ _ _ e3.src ?_
        intro j N4 _ hj e4
        have hj := hj (by omega)
        obtain ⟨Mb4, K4, o4, z4, d4⟩ := own_draw o3 (db.trans d3).src z3 e4
        simp (disch := omega)
        intro b' hb'
        simp (disch := omega)
        have sP := (Sub.refl N4).put hb' (.cells true (ints [-1, 5]) 2)
        have r5 := rd_fresh e4.src (w := true) (xs := ints [-1, 5]) (n := 2) (c := 2) hb' rfl (Nat.le_refl 2)
        refine pick_does s _ [-1, 5] _ _ (e4.src.sub sP) r5 (by simp) (by simp) ?_
        intro q _ N5 e5
        obtain ⟨Mb5, K5, o5, z5, d5⟩ := own_draw o4 ((db.trans d3).trans d4).src (z4.trans sP) e5
        have sB : Sub M Mb5 := fin _ (((db.trans d3).trans d4).trans d5)
        obtain ⟨j, rfl⟩ : ∃ i : Nat, j = i := ⟨j.toNat, by omega⟩
        rcases o5 with ⟨_, he, _⟩ | ⟨b, c, hvb, hb, hc, rfl⟩
        · have := congrArg List.length he
          rw [ints_length, List.length_nil] at this
          omega
        rw [ints_length] at hc hvb
        injection hvb with q1 q2 q3
        subst q1
        subst q3
        have kb : N5 b = some (.cells true (ints zs) cv) := z5 _ _ (put_same _ _ _)
        have hMb : M b = none := none_of sB hb
        have sF : Sub M (N5.put b (.cells true (ints (zs.set j q)) cv)) := by
          intro i B hi
          have e : i ≠ b := by rintro rfl; rw [hMb] at hi; cases hi
          rw [put_ne _ _ e]
          exact z5 _ _ ((sB.trans ((Sub.refl Mb5).put hb _)) _ _ hi)
        have rF : Rd (N5.put b (.cells true (ints (zs.set j q)) cv)) (.slice (some ⟨b, 0, none⟩) zs.length cv) (ints (zs.set j q)) := by
          refine .inr ⟨b, 0, cv, by rw [ints_length, List.length_set], ?_, by rw [ints_length, List.length_set]; exact hc⟩
          rw [sub_of (put_same _ _ _), optIf, if_pos (by omega), List.drop_zero, List.take_length]
        have hj5 : j < zs.length := by omega
        simp (disch := omega) [kb, ints_set, set_is]
        exact ret_of (h _ (zs.set j q) _ sF (by rw [List.length_set]; omega) rF)
      · have hzn : 0 < zs.length := by omega
        have xb : (x == 0) = false := beq_eq_false_iff_ne.2 x0
        simp (disch := omega) [x0, hzn, xb]
        exact ret_of (h _ zs _ ((fin _ (db.trans d3)).trans (o3.sub.trans z3)) (by omega) (by have r9 := o3.rd.sub z3; rw [ints_length] at r9; exact r9))
end Go.Proofs.YtbefijbmgmbphaaGreat

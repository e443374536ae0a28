/- Law: images of iterates are iterates, and images by composed morphisms are images of images. -/
import Derived.Test.YticejlplbibegaaGreatDoorM23
import Derived.Test.YticejlplbibegaaGreatDoorC89
import Derived.Test.YticejlplbibegaaGreatDoorC57
import Derived.Test.YticejlplbibegaaGreatDoorC30
namespace Go.Proofs.YticejlplbibegaaGreatDoor
open Go
set_option linter.unusedSimpArgs false
set_option linter.unusedVariables false

theorem morRd {M N : Mem} {v : Value} {ws : List (List UInt8)} (h : MorGot M N v ws) : Rd N v (strs ws) ∧ ws.length ≤ 200 ∧ Fine ws := by
  obtain ⟨D, _, h1, h2, h3, h4⟩ := h
  exact ⟨h1.sub h2, h3, fun w hw => by have := h4 w hw; omega⟩
theorem strs_at0 {N : Mem} {a : Option Addr} {c n : Nat} {ws : List (List UInt8)} (h : Rd N (.slice a n c) (strs ws)) (h1 : 1 ≤ ws.length) : ∃ b o, a = some ⟨b, o, none⟩ ∧ ∀ i, i < ws.length → N.get? b (o + i) = some (str (ws.getD i [])) := by
  obtain ⟨a', c', he, hat⟩ := h.opened
  rw [strs_length] at he hat
  injection he with e1 e2 e3
  rcases hat with h0 | ⟨b, o, e4, hat⟩
  · omega
  · refine ⟨b, o, by rw [e1, e4], fun i hi => ?_⟩
    rw [hat i hi, strs_get, List.getElem?_eq_getElem hi, List.getD_eq_getElem?_getD, List.getElem?_eq_getElem hi]; rfl
set_option maxRecDepth 4000 in
set_option maxHeartbeats 4000000 in
theorem law_FnMorphisms (v : Value) (xs : List UInt8) (M : Mem) (R : Value → Mem → Prop) (hv : Rd M v (bytesV xs)) (hl : xs.length ≤ 9223372036854775807) (h : ∀ M', Sub M M' → R (.bool true) M') : Does Tryz.prog 3 [v] M R := by
  refine does_fn tab_ok Tryz.func3 rfl (by kernel_rfl) (by kernel_rfl) Tryz.ntmps3 Tryz.results3 rfl ?_
  simp (disch := omega)
  refine big_does v xs _ _ hv hl ?_
  by_cases hb : 4096 < xs.length
  · rw [decide_eq_true hb]
    simp (disch := omega)
    exact ret_of (h _ (Sub.refl _))
  rw [decide_eq_false hb]
  simp (disch := omega)
  refine drawIO_does v xs _ _ hv (by omega) ?_
  intro v1 ws w N1 s1 g1 hwl
  obtain ⟨r1, l1, f1⟩ := morRd g1
  obtain ⟨a1, c1, rfl, _⟩ := r1.opened
  rw [strs_length] at r1 ⊢
  simp (disch := omega)
  intro b3 hb3
  simp (disch := omega)
  have k3 : (N1.put b3 (.cells true [.slice a1 ws.length c1] 1)) b3 = some (.cells true [.slice a1 ws.length c1] 1) := put_same _ _ _
  have sF := s1.trans ((Sub.refl N1).put hb3 (.cells true [.slice a1 ws.length c1] 1))
  have r1 := r1.put hb3 (.cells true [.slice a1 ws.length c1] 1)
  generalize N1.put b3 (.cells true [.slice a1 ws.length c1] 1) = N2 at *
  refine impl_ImageOf _ ws w _ _ r1 f1 (by omega) (by omega) ?_
  simp (disch := omega) [tup2, sub_of k3]
  refine spec_ImageOf _ ws w _ _ r1 f1 (by omega) (by omega) ?_
  simp (disch := omega) [tup2, sub_of k3]
  refine drawIT_does v xs _ _ (hv.sub sF) (by omega) ?_
  intro v2 us u k N3 s3 g2 hul
  obtain ⟨r2, l2, f2⟩ := morRd g2
  obtain ⟨a2, c2, rfl, _⟩ := r2.opened
  rw [strs_length] at r2 ⊢
  simp (disch := omega)
  intro b9 hb9
  simp (disch := omega)
  have k9 : (N3.put b9 (.cells true [.slice a2 us.length c2] 1)) b9 = some (.cells true [.slice a2 us.length c2] 1) := put_same _ _ _
  have s3 := s3.trans ((Sub.refl N3).put hb9 (.cells true [.slice a2 us.length c2] 1))
  have r2 := r2.put hb9 (.cells true [.slice a2 us.length c2] 1)
  generalize N3.put b9 (.cells true [.slice a2 us.length c2] 1) = N4 at *
  have k3 := s3 _ _ k3
  have r1 := r1.sub s3
  have sF := sF.trans s3
  clear s1 s3 g1 g2
  refine impl_IterateOf _ us u k _ _ r2 f2 (by omega) (by omega) ?_
  simp (disch := omega) [tup2, sub_of k9]
  refine spec_IterateOf _ us u k _ _ r2 f2 (by omega) (by omega) ?_
  simp (disch := omega) [tup2, sub_of k9]
  refine drawCM_does v xs _ _ (hv.sub sF) (by omega) ?_
  intro v3 as_ v4 bs N5 s5 g3 g4
  obtain ⟨r3, l3, f3⟩ := morRd g3
  obtain ⟨r4, l4, f4⟩ := morRd g4
  obtain ⟨a3, c3, rfl, _⟩ := r3.opened
  obtain ⟨a4, c4, rfl, _⟩ := r4.opened
  simp only [strs_length] at r3 r4 ⊢
  simp (disch := omega)
  intro b16 hb16
  simp (disch := omega)
  intro b17 hb17
  have hnn : b16 ≠ b17 := by rintro rfl; rw [put_same] at hb17; cases hb17
  have hb17N : N5 b17 = none := by rw [put_ne _ _ (Ne.symm hnn)] at hb17; exact hb17
  simp (disch := omega)
  have k16 : ((N5.put b16 (.cells true [.slice a3 as_.length c3] 1)).put b17 (.cells true [.slice a4 bs.length c4] 1)) b16 = some (.cells true [.slice a3 as_.length c3] 1) := by rw [put_ne _ _ hnn]; exact put_same _ _ _
  have k17 : ((N5.put b16 (.cells true [.slice a3 as_.length c3] 1)).put b17 (.cells true [.slice a4 bs.length c4] 1)) b17 = some (.cells true [.slice a4 bs.length c4] 1) := put_same _ _ _
  have s7 : Sub N5 ((N5.put b16 (.cells true [.slice a3 as_.length c3] 1)).put b17 (.cells true [.slice a4 bs.length c4] 1)) := ((Sub.refl N5).put hb16 _).put hb17N _
  generalize (N5.put b16 (.cells true [.slice a3 as_.length c3] 1)).put b17 (.cells true [.slice a4 bs.length c4] 1) = N7 at *
  have r3 := r3.sub s7
  have r4 := r4.sub s7
  have s7 := s5.trans s7
  have k3 := s7 _ _ k3
  have k9 := s7 _ _ k9
  have r1 := r1.sub s7
  have r2 := r2.sub s7
  have sF := sF.trans s7
  clear s5 s7 g3 g4 hb16 hb17 hb17N
  have hcw := compW_len as_ bs
  refine impl_ComposeMorphisms _ _ as_ bs _ _ r3 f3 (by omega) r4 f4 (by omega) ?_
  intro v5 N8 o8
  have s8 := o8.sub
  obtain ⟨a5, c5, hv5, _⟩ := o8.rd.opened
  rw [strs_length] at hv5
  subst hv5
  simp (disch := omega)
  intro b18 hb18
  simp (disch := omega) [set_is, put_put]
  have k18 : (N8.put b18 (.cells true [.slice a5 (compW as_ bs).length c5] 1)) b18 = some (.cells true [.slice a5 (compW as_ bs).length c5] 1) := put_same _ _ _
  have rc := o8.rd.put hb18 (.cells true [.slice a5 (compW as_ bs).length c5] 1)
  have s8 := s8.trans ((Sub.refl N8).put hb18 (.cells true [.slice a5 (compW as_ bs).length c5] 1))
  generalize N8.put b18 (.cells true [.slice a5 (compW as_ bs).length c5] 1) = N9 at *
  have k3 := s8 _ _ k3
  have k9 := s8 _ _ k9
  have k16 := s8 _ _ k16
  have k17 := s8 _ _ k17
  have r1 := r1.sub s8
  have r2 := r2.sub s8
  have r3 := r3.sub s8
  have r4 := r4.sub s8
  have sF := sF.trans s8
  clear s8 o8 hb18
  simp (disch := omega) [sub_of k16, sub_of k17]
  refine spec_ComposeMorphisms _ _ as_ bs _ _ r3 f3 (by omega) r4 f4 (by omega) ?_
  intro v6 N10 o10
  have s8 := o10.sub
  obtain ⟨a6, c6, hv6, _⟩ := o10.rd.opened
  rw [strs_length] at hv6
  subst hv6
  simp (disch := omega)
  intro b20 hb20
  simp (disch := omega) [set_is, put_put]
  have k20 : (N10.put b20 (.cells true [.slice a6 (compW as_ bs).length c6] 1)) b20 = some (.cells true [.slice a6 (compW as_ bs).length c6] 1) := put_same _ _ _
  have rd := o10.rd.put hb20 (.cells true [.slice a6 (compW as_ bs).length c6] 1)
  have s8 := s8.trans ((Sub.refl N10).put hb20 (.cells true [.slice a6 (compW as_ bs).length c6] 1))
  generalize N10.put b20 (.cells true [.slice a6 (compW as_ bs).length c6] 1) = N11 at *
  have k3 := s8 _ _ k3
  have k9 := s8 _ _ k9
  have k16 := s8 _ _ k16
  have k17 := s8 _ _ k17
  have k18 := s8 _ _ k18
  have r1 := r1.sub s8
  have r2 := r2.sub s8
  have r3 := r3.sub s8
  have r4 := r4.sub s8
  have rc := rc.sub s8
  have sF := sF.trans s8
  clear s8 o10 hb20
  simp (disch := omega) [sub_of k18, get_of k18, sub_of k20, get_of k20]
  refine words9_does _ _ _ _ _ _ rc rd (by omega) (by omega) ?_
  rw [beq_self_eq_true]
  simp (disch := omega) [sub_of k3]
  clear k20 rd
  refine impl_MorphismText _ ws _ _ r1 f1 (by omega) ?_
  simp (disch := omega) [tup2, sub_of k3]
  refine spec_MorphismText _ ws _ _ r1 f1 (by omega) ?_
  simp (disch := omega) [tup2]
  refine drawPM_does v xs _ _ (hv.sub sF) (by omega) ?_
  intro ln N12 s12 hln
  have hpl := pmL_len ln
  simp (disch := omega)
  refine impl_ParseMorphism ln _ _ (by omega) ?_
  intro v7 N13 o13
  have s8 := s12.trans o13.sub
  obtain ⟨a7, c7, hv7, _⟩ := o13.rd.opened
  rw [strs_length] at hv7
  subst hv7
  simp (disch := omega)
  intro b27 hb27
  simp (disch := omega) [set_is, put_put]
  have k27 : (N13.put b27 (.cells true [.slice a7 (pmL ln).length c7] 1)) b27 = some (.cells true [.slice a7 (pmL ln).length c7] 1) := put_same _ _ _
  have rp := o13.rd.put hb27 (.cells true [.slice a7 (pmL ln).length c7] 1)
  have s8 := s8.trans ((Sub.refl N13).put hb27 (.cells true [.slice a7 (pmL ln).length c7] 1))
  generalize N13.put b27 (.cells true [.slice a7 (pmL ln).length c7] 1) = N14 at *
  clear o13 hb27 s12
  refine spec_ParseMorphism ln _ _ (by omega) ?_
  intro v8 N15 o15
  have s9 := o15.sub
  obtain ⟨a8, c8, hv8, _⟩ := o15.rd.opened
  rw [strs_length] at hv8
  subst hv8
  simp (disch := omega)
  intro b29 hb29
  simp (disch := omega) [set_is, put_put]
  have k29 : (N15.put b29 (.cells true [.slice a8 (pmL ln).length c8] 1)) b29 = some (.cells true [.slice a8 (pmL ln).length c8] 1) := put_same _ _ _
  have rq := o15.rd.put hb29 (.cells true [.slice a8 (pmL ln).length c8] 1)
  have s9 := s9.trans ((Sub.refl N15).put hb29 (.cells true [.slice a8 (pmL ln).length c8] 1))
  generalize N15.put b29 (.cells true [.slice a8 (pmL ln).length c8] 1) = N16 at *
  have k27 := s9 _ _ k27
  have rp := rp.sub s9
  have s8 := s8.trans s9
  have k3 := s8 _ _ k3
  have k9 := s8 _ _ k9
  have k16 := s8 _ _ k16
  have k17 := s8 _ _ k17
  have k18 := s8 _ _ k18
  have r1 := r1.sub s8
  have r2 := r2.sub s8
  have r3 := r3.sub s8
  have r4 := r4.sub s8
  have rc := rc.sub s8
  have sF := sF.trans s8
  clear s8 s9 o15 hb29
  simp (disch := omega) [sub_of k27, get_of k27, sub_of k29, get_of k29]
  refine words9_does _ _ _ _ _ _ rp rq (by omega) (by omega) ?_
  rw [beq_self_eq_true]
  simp (disch := omega)
  refine draw_to tab_ok (by kernel_rfl) (by kernel_rfl) (by rfl) ?_
  simp (disch := omega) [sub_of k3]
  refine vQCall_at (a := []) (c := []) (isMorphism_does _ ws _ _ r1 f1 (by omega) ⟨rfl, rfl⟩) ?_
  simp (disch := omega) [sub_of k3]
  refine vQCall_at (a := []) (c := []) (spec_IsMorphism _ ws _ _ r1 f1 (by omega) ⟨rfl, rfl⟩) ?_
  simp (disch := omega)
  clear k27 k29 rp rq
  by_cases hm : isMor ws = true
  · have e1 : morC ws = 0 := if_pos hm
    have e2 : textT ws = txt ws := if_pos hm
    obtain ⟨e3, e4⟩ := text_back hm
    have e5 := txt_len (ws := ws) (n := 12) fun w hw => (mor_ok hm hw).1
    have e6 : ws.length * 13 ≤ 200 * 13 := Nat.mul_le_mul l1 (Nat.le_refl 13)
    rw [e1, e2]
    simp (disch := omega)
    refine impl_ParseMorphism (txt ws) _ _ (by omega) ?_
    rw [e3, e4]
    intro v9 N17 o17
    obtain ⟨a9, c9, hv9, _⟩ := o17.rd.opened
    rw [strs_length] at hv9
    subst hv9
    simp (disch := omega)
    intro b31 hb31
    simp (disch := omega) [set_is, put_put]
    have k31 : (N17.put b31 (.cells true [.slice a9 ws.length c9] 1)) b31 = some (.cells true [.slice a9 ws.length c9] 1) := put_same _ _ _
    have rz := o17.rd.put hb31 (.cells true [.slice a9 ws.length c9] 1)
    have s8 := o17.sub.trans ((Sub.refl N17).put hb31 (.cells true [.slice a9 ws.length c9] 1))
    generalize N17.put b31 (.cells true [.slice a9 ws.length c9] 1) = NN at *
    have k3 := s8 _ _ k3
    have k9 := s8 _ _ k9
    have k16 := s8 _ _ k16
    have k17 := s8 _ _ k17
    have k18 := s8 _ _ k18
    have r1 := r1.sub s8
    have r2 := r2.sub s8
    have r3 := r3.sub s8
    have r4 := r4.sub s8
    have rc := rc.sub s8
    have sF := sF.trans s8
    clear s8 o17 hb31
    simp (disch := omega) [sub_of k31, get_of k31, sub_of k3, get_of k3]
    refine words9_does _ _ _ _ _ _ rz r1 (by omega) (by omega) ?_
    rw [beq_self_eq_true]
    simp (disch := omega)
    clear k31 rz
    by_cases hC2 : iterC us u k = 0 ∧ 0 < k
    · obtain ⟨q1, q2, q3⟩ := iter_back hC2.1 hC2.2
      have q4 := iterT_len us u (k - 1)
      have q5 := iter_k hC2.1
      have q6 := hC2.2
      simp (disch := omega) [hC2.1, hC2.2, sub_of k9]
      refine impl_IterateOf _ us u (k - 1) _ _ r2 f2 (by omega) (by omega) ?_
      rw [q1]
      revert q2 q3 q4
      generalize iterT us u (k - 1) = X
      intro q2 q3 q4
      simp (disch := omega) [tup2, sub_of k9]
      refine impl_ImageOf _ us X _ _ r2 f2 (by omega) (by omega) ?_
      rw [q2, q3]
      simp (disch := omega) [tup2]
      by_cases hC3 : compC as_ bs = 0
      · obtain ⟨p1, p2⟩ := comp_is hC3
        have p3 := fun u (hu : u ∈ bs) => comp_img hC3 hu
        rw [p1, List.length_map] at k18
        rw [p1] at rc
        simp (disch := omega) [hC3]
        refine loop_to tab_ok [2, 37, 38, 39, 225, 226, 227, 228, 229, 230, 231, 232, 233, 234, 235, 236, 237, 238, 239, 240, 241, 242, 243, 244, 245, 246, 247, 248, 249, 250, 251, 252] (fun i : Nat => [(37, .int .i64 i)]) (fun i M' => NN = M' ∧ i ≤ bs.length) (fun i => bs.length - i) 0 (by kernel_rfl) (by simp (disch := omega)) ⟨rfl, by omega⟩ ?_
        rintro i M' g ⟨rfl, hi⟩
        by_cases hlt : i < bs.length
        · obtain ⟨bq, oq, hae, hat⟩ := strs_at0 r4 (by omega)
          obtain ⟨bz, oz, hze, haz⟩ := strs_at0 rc (by rw [List.length_map]; omega)
          subst hae hze
          have g1 := hat i hlt
          have g2 := haz i (by rw [List.length_map]; omega)
          have hmem := getD_mem (ws := bs) hlt
          have hl' := f4 _ hmem
          obtain ⟨q1, q2⟩ := p3 _ hmem
          have e1 : (bs.map (imgOf as_)).getD i [] = imgOf as_ (bs.getD i []) := by
            rw [List.getD_eq_getElem?_getD, List.getD_eq_getElem?_getD, List.getElem?_map, List.getElem?_eq_getElem hlt]; rfl
          rw [e1] at g2
          clear e1 hmem
          generalize bs.getD i [] = B at *
          generalize imgOf as_ B = Y at *
          simp (disch := omega) [sub_of k17, get_of k17]
          refine draw_to tab_ok (by kernel_rfl) (by kernel_rfl) (by rfl) ?_
          simp (disch := omega) [sub_of k16, get_of k16, sub_of k17, get_of k17, g1]
          refine vQCall_at (a := []) (c := []) (impl_ImageOf _ as_ _ _ _ r3 f3 (by omega) hl' ⟨rfl, rfl⟩) ?_
          rw [q1, q2]
          simp (disch := omega) [tup2, sub_of k18, get_of k18, g2]
          exact Rnd.mk' (i + 1) (by omega) (by (repeat (first | exact km | refine kp rfl ?_ | refine km' rfl ?_))) (by simp (disch := omega)) ⟨rfl, by omega⟩
        · have hi' : i = bs.length := by omega
          subst hi'
          simp (disch := omega) [sub_of k17, get_of k17]
          by_cases hC1 : iterC ws w 1 = 0
          · obtain ⟨p1, p2, p3, p4⟩ := from_img hC1
            have p5 := fromT_len hC1
            have p6 := iterT_len ws w 1
            revert p1 p2 p3 p4 p5 p6
            generalize iterT ws w 1 = I
            intro p1 p2 p3 p4 p5 p6
            simp (disch := omega) [hC1, sub_of k3]
            refine impl_WordFromImage _ ws I _ _ r1 f1 (by omega) (by omega) ?_
            simp (disch := omega) [tup2, sub_of k3]
            refine spec_WordFromImage _ ws I _ _ r1 f1 (by omega) (by omega) ?_
            rw [p1]
            have p2' : ¬ w.length < (fromT ws I).length := by omega
            revert p2 p3 p4 p5 p2'
            generalize fromT ws I = X
            intro p2 p3 p4 p5 p2'
            simp (disch := omega) [tup2, p2', sub_of k3]
            refine impl_ImageOf _ ws X _ _ r1 f1 (by omega) (by omega) ?_
            rw [p3, p4]
            simp (disch := omega) [tup2]
            exact ret_of (h _ sF)
          · have e0 := iterT_no hC1
            rw [e0]
            simp (disch := omega) [hC1]
            exact ret_of (h _ sF)
      · simp (disch := omega) [hC3]
        by_cases hC1 : iterC ws w 1 = 0
        · obtain ⟨p1, p2, p3, p4⟩ := from_img hC1
          have p5 := fromT_len hC1
          have p6 := iterT_len ws w 1
          revert p1 p2 p3 p4 p5 p6
          generalize iterT ws w 1 = I
          intro p1 p2 p3 p4 p5 p6
          simp (disch := omega) [hC1, sub_of k3]
          refine impl_WordFromImage _ ws I _ _ r1 f1 (by omega) (by omega) ?_
          simp (disch := omega) [tup2, sub_of k3]
          refine spec_WordFromImage _ ws I _ _ r1 f1 (by omega) (by omega) ?_
          rw [p1]
          have p2' : ¬ w.length < (fromT ws I).length := by omega
          revert p2 p3 p4 p5 p2'
          generalize fromT ws I = X
          intro p2 p3 p4 p5 p2'
          simp (disch := omega) [tup2, p2', sub_of k3]
          refine impl_ImageOf _ ws X _ _ r1 f1 (by omega) (by omega) ?_
          rw [p3, p4]
          simp (disch := omega) [tup2]
          exact ret_of (h _ sF)
        · have e0 := iterT_no hC1
          rw [e0]
          simp (disch := omega) [hC1]
          exact ret_of (h _ sF)
    · by_cases hC2a : iterC us u k = 0
      · have hk0 : ¬ 0 < k := fun hk => hC2 ⟨hC2a, hk⟩
        simp (disch := omega) [hC2a, hk0]
        by_cases hC3 : compC as_ bs = 0
        · obtain ⟨p1, p2⟩ := comp_is hC3
          have p3 := fun u (hu : u ∈ bs) => comp_img hC3 hu
          rw [p1, List.length_map] at k18
          rw [p1] at rc
          simp (disch := omega) [hC3]
          refine loop_to tab_ok [2, 37, 38, 39, 225, 226, 227, 228, 229, 230, 231, 232, 233, 234, 235, 236, 237, 238, 239, 240, 241, 242, 243, 244, 245, 246, 247, 248, 249, 250, 251, 252] (fun i : Nat => [(37, .int .i64 i)]) (fun i M' => NN = M' ∧ i ≤ bs.length) (fun i => bs.length - i) 0 (by kernel_rfl) (by simp (disch := omega)) ⟨rfl, by omega⟩ ?_
          rintro i M' g ⟨rfl, hi⟩
          by_cases hlt : i < bs.length
          · obtain ⟨bq, oq, hae, hat⟩ := strs_at0 r4 (by omega)
            obtain ⟨bz, oz, hze, haz⟩ := strs_at0 rc (by rw [List.length_map]; omega)
            subst hae hze
            have g1 := hat i hlt
            have g2 := haz i (by rw [List.length_map]; omega)
            have hmem := getD_mem (ws := bs) hlt
            have hl' := f4 _ hmem
            obtain ⟨q1, q2⟩ := p3 _ hmem
            have e1 : (bs.map (imgOf as_)).getD i [] = imgOf as_ (bs.getD i []) := by
              rw [List.getD_eq_getElem?_getD, List.getD_eq_getElem?_getD, List.getElem?_map, List.getElem?_eq_getElem hlt]; rfl
            rw [e1] at g2
            clear e1 hmem
            generalize bs.getD i [] = B at *
            generalize imgOf as_ B = Y at *
            simp (disch := omega) [sub_of k17, get_of k17]
            refine draw_to tab_ok (by kernel_rfl) (by kernel_rfl) (by rfl) ?_
            simp (disch := omega) [sub_of k16, get_of k16, sub_of k17, get_of k17, g1]
            refine vQCall_at (a := []) (c := []) (impl_ImageOf _ as_ _ _ _ r3 f3 (by omega) hl' ⟨rfl, rfl⟩) ?_
            rw [q1, q2]
            simp (disch := omega) [tup2, sub_of k18, get_of k18, g2]
            exact Rnd.mk' (i + 1) (by omega) (by (repeat (first | exact km | refine kp rfl ?_ | refine km' rfl ?_))) (by simp (disch := omega)) ⟨rfl, by omega⟩
          · have hi' : i = bs.length := by omega
            subst hi'
            simp (disch := omega) [sub_of k17, get_of k17]
            by_cases hC1 : iterC ws w 1 = 0
            · obtain ⟨p1, p2, p3, p4⟩ := from_img hC1
              have p5 := fromT_len hC1
              have p6 := iterT_len ws w 1
              revert p1 p2 p3 p4 p5 p6
              generalize iterT ws w 1 = I
              intro p1 p2 p3 p4 p5 p6
              simp (disch := omega) [hC1, sub_of k3]
              refine impl_WordFromImage _ ws I _ _ r1 f1 (by omega) (by omega) ?_
              simp (disch := omega) [tup2, sub_of k3]
              refine spec_WordFromImage _ ws I _ _ r1 f1 (by omega) (by omega) ?_
              rw [p1]
              have p2' : ¬ w.length < (fromT ws I).length := by omega
              revert p2 p3 p4 p5 p2'
              generalize fromT ws I = X
              intro p2 p3 p4 p5 p2'
              simp (disch := omega) [tup2, p2', sub_of k3]
              refine impl_ImageOf _ ws X _ _ r1 f1 (by omega) (by omega) ?_
              rw [p3, p4]
              simp (disch := omega) [tup2]
              exact ret_of (h _ sF)
            · have e0 := iterT_no hC1
              rw [e0]
              simp (disch := omega) [hC1]
              exact ret_of (h _ sF)
        · simp (disch := omega) [hC3]
          by_cases hC1 : iterC ws w 1 = 0
          · obtain ⟨p1, p2, p3, p4⟩ := from_img hC1
            have p5 := fromT_len hC1
            have p6 := iterT_len ws w 1
            revert p1 p2 p3 p4 p5 p6
            generalize iterT ws w 1 = I
            intro p1 p2 p3 p4 p5 p6
            simp (disch := omega) [hC1, sub_of k3]
            refine impl_WordFromImage _ ws I _ _ r1 f1 (by omega) (by omega) ?_
            simp (disch := omega) [tup2, sub_of k3]
            refine spec_WordFromImage _ ws I _ _ r1 f1 (by omega) (by omega) ?_
            rw [p1]
            have p2' : ¬ w.length < (fromT ws I).length := by omega
            revert p2 p3 p4 p5 p2'
            generalize fromT ws I = X
            intro p2 p3 p4 p5 p2'
            simp (disch := omega) [tup2, p2', sub_of k3]
            refine impl_ImageOf _ ws X _ _ r1 f1 (by omega) (by omega) ?_
            rw [p3, p4]
            simp (disch := omega) [tup2]
            exact ret_of (h _ sF)
          · have e0 := iterT_no hC1
            rw [e0]
            simp (disch := omega) [hC1]
            exact ret_of (h _ sF)
      · simp (disch := omega) [hC2a]
        by_cases hC3 : compC as_ bs = 0
        · obtain ⟨p1, p2⟩ := comp_is hC3
          have p3 := fun u (hu : u ∈ bs) => comp_img hC3 hu
          rw [p1, List.length_map] at k18
          rw [p1] at rc
          simp (disch := omega) [hC3]
          refine loop_to tab_ok [2, 37, 38, 39, 225, 226, 227, 228, 229, 230, 231, 232, 233, 234, 235, 236, 237, 238, 239, 240, 241, 242, 243, 244, 245, 246, 247, 248, 249, 250, 251, 252] (fun i : Nat => [(37, .int .i64 i)]) (fun i M' => NN = M' ∧ i ≤ bs.length) (fun i => bs.length - i) 0 (by kernel_rfl) (by simp (disch := omega)) ⟨rfl, by omega⟩ ?_
          rintro i M' g ⟨rfl, hi⟩
          by_cases hlt : i < bs.length
          · obtain ⟨bq, oq, hae, hat⟩ := strs_at0 r4 (by omega)
            obtain ⟨bz, oz, hze, haz⟩ := strs_at0 rc (by rw [List.length_map]; omega)
            subst hae hze
            have g1 := hat i hlt
            have g2 := haz i (by rw [List.length_map]; omega)
            have hmem := getD_mem (ws := bs) hlt
            have hl' := f4 _ hmem
            obtain ⟨q1, q2⟩ := p3 _ hmem
            have e1 : (bs.map (imgOf as_)).getD i [] = imgOf as_ (bs.getD i []) := by
              rw [List.getD_eq_getElem?_getD, List.getD_eq_getElem?_getD, List.getElem?_map, List.getElem?_eq_getElem hlt]; rfl
            rw [e1] at g2
            clear e1 hmem
            generalize bs.getD i [] = B at *
            generalize imgOf as_ B = Y at *
            simp (disch := omega) [sub_of k17, get_of k17]
            refine draw_to tab_ok (by kernel_rfl) (by kernel_rfl) (by rfl) ?_
            simp (disch := omega) [sub_of k16, get_of k16, sub_of k17, get_of k17, g1]
            refine vQCall_at (a := []) (c := []) (impl_ImageOf _ as_ _ _ _ r3 f3 (by omega) hl' ⟨rfl, rfl⟩) ?_
            rw [q1, q2]
            simp (disch := omega) [tup2, sub_of k18, get_of k18, g2]
            exact Rnd.mk' (i + 1) (by omega) (by (repeat (first | exact km | refine kp rfl ?_ | refine km' rfl ?_))) (by simp (disch := omega)) ⟨rfl, by omega⟩
          · have hi' : i = bs.length := by omega
            subst hi'
            simp (disch := omega) [sub_of k17, get_of k17]
            by_cases hC1 : iterC ws w 1 = 0
            · obtain ⟨p1, p2, p3, p4⟩ := from_img hC1
              have p5 := fromT_len hC1
              have p6 := iterT_len ws w 1
              revert p1 p2 p3 p4 p5 p6
              generalize iterT ws w 1 = I
              intro p1 p2 p3 p4 p5 p6
              simp (disch := omega) [hC1, sub_of k3]
              refine impl_WordFromImage _ ws I _ _ r1 f1 (by omega) (by omega) ?_
              simp (disch := omega) [tup2, sub_of k3]
              refine spec_WordFromImage _ ws I _ _ r1 f1 (by omega) (by omega) ?_
              rw [p1]
              have p2' : ¬ w.length < (fromT ws I).length := by omega
              revert p2 p3 p4 p5 p2'
              generalize fromT ws I = X
              intro p2 p3 p4 p5 p2'
              simp (disch := omega) [tup2, p2', sub_of k3]
              refine impl_ImageOf _ ws X _ _ r1 f1 (by omega) (by omega) ?_
              rw [p3, p4]
              simp (disch := omega) [tup2]
              exact ret_of (h _ sF)
            · have e0 := iterT_no hC1
              rw [e0]
              simp (disch := omega) [hC1]
              exact ret_of (h _ sF)
        · simp (disch := omega) [hC3]
          by_cases hC1 : iterC ws w 1 = 0
          · obtain ⟨p1, p2, p3, p4⟩ := from_img hC1
            have p5 := fromT_len hC1
            have p6 := iterT_len ws w 1
            revert p1 p2 p3 p4 p5 p6
            generalize iterT ws w 1 = I
            intro p1 p2 p3 p4 p5 p6
            simp (disch := omega) [hC1, sub_of k3]
            refine impl_WordFromImage _ ws I _ _ r1 f1 (by omega) (by omega) ?_
            simp (disch := omega) [tup2, sub_of k3]
            refine spec_WordFromImage _ ws I _ _ r1 f1 (by omega) (by omega) ?_
            rw [p1]
            have p2' : ¬ w.length < (fromT ws I).length := by omega
            revert p2 p3 p4 p5 p2'
            generalize fromT ws I = X
            intro p2 p3 p4 p5 p2'
            simp (disch := omega) [tup2, p2', sub_of k3]
            refine impl_ImageOf _ ws X _ _ r1 f1 (by omega) (by omega) ?_
            rw [p3, p4]
            simp (disch := omega) [tup2]
            exact ret_of (h _ sF)
          · have e0 := iterT_no hC1
            rw [e0]
            simp (disch := omega) [hC1]
            exact ret_of (h _ sF)
  · have e1 : morC ws = 1 := if_neg hm
    rw [e1]
    generalize N16 = NN at *
    simp (disch := omega)
    by_cases hC2 : iterC us u k = 0 ∧ 0 < k
    · obtain ⟨q1, q2, q3⟩ := iter_back hC2.1 hC2.2
      have q4 := iterT_len us u (k - 1)
      have q5 := iter_k hC2.1
      have q6 := hC2.2
      simp (disch := omega) [hC2.1, hC2.2, sub_of k9]
      refine impl_IterateOf _ us u (k - 1) _ _ r2 f2 (by omega) (by omega) ?_
      rw [q1]
      revert q2 q3 q4
      generalize iterT us u (k - 1) = X
      intro q2 q3 q4
      simp (disch := omega) [tup2, sub_of k9]
      refine impl_ImageOf _ us X _ _ r2 f2 (by omega) (by omega) ?_
      rw [q2, q3]
      simp (disch := omega) [tup2]
      by_cases hC3 : compC as_ bs = 0
      · obtain ⟨p1, p2⟩ := comp_is hC3
        have p3 := fun u (hu : u ∈ bs) => comp_img hC3 hu
        rw [p1, List.length_map] at k18
        rw [p1] at rc
        simp (disch := omega) [hC3]
        refine loop_to tab_ok [2, 37, 38, 39, 225, 226, 227, 228, 229, 230, 231, 232, 233, 234, 235, 236, 237, 238, 239, 240, 241, 242, 243, 244, 245, 246, 247, 248, 249, 250, 251, 252] (fun i : Nat => [(37, .int .i64 i)]) (fun i M' => NN = M' ∧ i ≤ bs.length) (fun i => bs.length - i) 0 (by kernel_rfl) (by simp (disch := omega)) ⟨rfl, by omega⟩ ?_
        rintro i M' g ⟨rfl, hi⟩
        by_cases hlt : i < bs.length
        · obtain ⟨bq, oq, hae, hat⟩ := strs_at0 r4 (by omega)
          obtain ⟨bz, oz, hze, haz⟩ := strs_at0 rc (by rw [List.length_map]; omega)
          subst hae hze
          have g1 := hat i hlt
          have g2 := haz i (by rw [List.length_map]; omega)
          have hmem := getD_mem (ws := bs) hlt
          have hl' := f4 _ hmem
          obtain ⟨q1, q2⟩ := p3 _ hmem
          have e1 : (bs.map (imgOf as_)).getD i [] = imgOf as_ (bs.getD i []) := by
            rw [List.getD_eq_getElem?_getD, List.getD_eq_getElem?_getD, List.getElem?_map, List.getElem?_eq_getElem hlt]; rfl
          rw [e1] at g2
          clear e1 hmem
          generalize bs.getD i [] = B at *
          generalize imgOf as_ B = Y at *
          simp (disch := omega) [sub_of k17, get_of k17]
          refine draw_to tab_ok (by kernel_rfl) (by kernel_rfl) (by rfl) ?_
          simp (disch := omega) [sub_of k16, get_of k16, sub_of k17, get_of k17, g1]
          refine vQCall_at (a := []) (c := []) (impl_ImageOf _ as_ _ _ _ r3 f3 (by omega) hl' ⟨rfl, rfl⟩) ?_
          rw [q1, q2]
          simp (disch := omega) [tup2, sub_of k18, get_of k18, g2]
          exact Rnd.mk' (i + 1) (by omega) (by (repeat (first | exact km | refine kp rfl ?_ | refine km' rfl ?_))) (by simp (disch := omega)) ⟨rfl, by omega⟩
        · have hi' : i = bs.length := by omega
          subst hi'
          simp (disch := omega) [sub_of k17, get_of k17]
          by_cases hC1 : iterC ws w 1 = 0
          · obtain ⟨p1, p2, p3, p4⟩ := from_img hC1
            have p5 := fromT_len hC1
            have p6 := iterT_len ws w 1
            revert p1 p2 p3 p4 p5 p6
            generalize iterT ws w 1 = I
            intro p1 p2 p3 p4 p5 p6
            simp (disch := omega) [hC1, sub_of k3]
            refine impl_WordFromImage _ ws I _ _ r1 f1 (by omega) (by omega) ?_
            simp (disch := omega) [tup2, sub_of k3]
            refine spec_WordFromImage _ ws I _ _ r1 f1 (by omega) (by omega) ?_
            rw [p1]
            have p2' : ¬ w.length < (fromT ws I).length := by omega
            revert p2 p3 p4 p5 p2'
            generalize fromT ws I = X
            intro p2 p3 p4 p5 p2'
            simp (disch := omega) [tup2, p2', sub_of k3]
            refine impl_ImageOf _ ws X _ _ r1 f1 (by omega) (by omega) ?_
            rw [p3, p4]
            simp (disch := omega) [tup2]
            exact ret_of (h _ sF)
          · have e0 := iterT_no hC1
            rw [e0]
            simp (disch := omega) [hC1]
            exact ret_of (h _ sF)
      · simp (disch := omega) [hC3]
        by_cases hC1 : iterC ws w 1 = 0
        · obtain ⟨p1, p2, p3, p4⟩ := from_img hC1
          have p5 := fromT_len hC1
          have p6 := iterT_len ws w 1
          revert p1 p2 p3 p4 p5 p6
          generalize iterT ws w 1 = I
          intro p1 p2 p3 p4 p5 p6
          simp (disch := omega) [hC1, sub_of k3]
          refine impl_WordFromImage _ ws I _ _ r1 f1 (by omega) (by omega) ?_
          simp (disch := omega) [tup2, sub_of k3]
          refine spec_WordFromImage _ ws I _ _ r1 f1 (by omega) (by omega) ?_
          rw [p1]
          have p2' : ¬ w.length < (fromT ws I).length := by omega
          revert p2 p3 p4 p5 p2'
          generalize fromT ws I = X
          intro p2 p3 p4 p5 p2'
          simp (disch := omega) [tup2, p2', sub_of k3]
          refine impl_ImageOf _ ws X _ _ r1 f1 (by omega) (by omega) ?_
          rw [p3, p4]
          simp (disch := omega) [tup2]
          exact ret_of (h _ sF)
        · have e0 := iterT_no hC1
          rw [e0]
          simp (disch := omega) [hC1]
          exact ret_of (h _ sF)
    · by_cases hC2a : iterC us u k = 0
      · have hk0 : ¬ 0 < k := fun hk => hC2 ⟨hC2a, hk⟩
        simp (disch := omega) [hC2a, hk0]
        by_cases hC3 : compC as_ bs = 0
        · obtain ⟨p1, p2⟩ := comp_is hC3
          have p3 := fun u (hu : u ∈ bs) => comp_img hC3 hu
          rw [p1, List.length_map] at k18
          rw [p1] at rc
          simp (disch := omega) [hC3]
          refine loop_to tab_ok [2, 37, 38, 39, 225, 226, 227, 228, 229, 230, 231, 232, 233, 234, 235, 236, 237, 238, 239, 240, 241, 242, 243, 244, 245, 246, 247, 248, 249, 250, 251, 252] (fun i : Nat => [(37, .int .i64 i)]) (fun i M' => NN = M' ∧ i ≤ bs.length) (fun i => bs.length - i) 0 (by kernel_rfl) (by simp (disch := omega)) ⟨rfl, by omega⟩ ?_
          rintro i M' g ⟨rfl, hi⟩
          by_cases hlt : i < bs.length
          · obtain ⟨bq, oq, hae, hat⟩ := strs_at0 r4 (by omega)
            obtain ⟨bz, oz, hze, haz⟩ := strs_at0 rc (by rw [List.length_map]; omega)
            subst hae hze
            have g1 := hat i hlt
            have g2 := haz i (by rw [List.length_map]; omega)
            have hmem := getD_mem (ws := bs) hlt
            have hl' := f4 _ hmem
            obtain ⟨q1, q2⟩ := p3 _ hmem
            have e1 : (bs.map (imgOf as_)).getD i [] = imgOf as_ (bs.getD i []) := by
              rw [List.getD_eq_getElem?_getD, List.getD_eq_getElem?_getD, List.getElem?_map, List.getElem?_eq_getElem hlt]; rfl
            rw [e1] at g2
            clear e1 hmem
            generalize bs.getD i [] = B at *
            generalize imgOf as_ B = Y at *
            simp (disch := omega) [sub_of k17, get_of k17]
            refine draw_to tab_ok (by kernel_rfl) (by kernel_rfl) (by rfl) ?_
            simp (disch := omega) [sub_of k16, get_of k16, sub_of k17, get_of k17, g1]
            refine vQCall_at (a := []) (c := []) (impl_ImageOf _ as_ _ _ _ r3 f3 (by omega) hl' ⟨rfl, rfl⟩) ?_
            rw [q1, q2]
            simp (disch := omega) [tup2, sub_of k18, get_of k18, g2]
            exact Rnd.mk' (i + 1) (by omega) (by (repeat (first | exact km | refine kp rfl ?_ | refine km' rfl ?_))) (by simp (disch := omega)) ⟨rfl, by omega⟩
          · have hi' : i = bs.length := by omega
            subst hi'
            simp (disch := omega) [sub_of k17, get_of k17]
            by_cases hC1 : iterC ws w 1 = 0
            · obtain ⟨p1, p2, p3, p4⟩ := from_img hC1
              have p5 := fromT_len hC1
              have p6 := iterT_len ws w 1
              revert p1 p2 p3 p4 p5 p6
              generalize iterT ws w 1 = I
              intro p1 p2 p3 p4 p5 p6
              simp (disch := omega) [hC1, sub_of k3]
              refine impl_WordFromImage _ ws I _ _ r1 f1 (by omega) (by omega) ?_
              simp (disch := omega) [tup2, sub_of k3]
              refine spec_WordFromImage _ ws I _ _ r1 f1 (by omega) (by omega) ?_
              rw [p1]
              have p2' : ¬ w.length < (fromT ws I).length := by omega
              revert p2 p3 p4 p5 p2'
              generalize fromT ws I = X
              intro p2 p3 p4 p5 p2'
              simp (disch := omega) [tup2, p2', sub_of k3]
              refine impl_ImageOf _ ws X _ _ r1 f1 (by omega) (by omega) ?_
              rw [p3, p4]
              simp (disch := omega) [tup2]
              exact ret_of (h _ sF)
            · have e0 := iterT_no hC1
              rw [e0]
              simp (disch := omega) [hC1]
              exact ret_of (h _ sF)
        · simp (disch := omega) [hC3]
          by_cases hC1 : iterC ws w 1 = 0
          · obtain ⟨p1, p2, p3, p4⟩ := from_img hC1
            have p5 := fromT_len hC1
            have p6 := iterT_len ws w 1
            revert p1 p2 p3 p4 p5 p6
            generalize iterT ws w 1 = I
            intro p1 p2 p3 p4 p5 p6
            simp (disch := omega) [hC1, sub_of k3]
            refine impl_WordFromImage _ ws I _ _ r1 f1 (by omega) (by omega) ?_
            simp (disch := omega) [tup2, sub_of k3]
            refine spec_WordFromImage _ ws I _ _ r1 f1 (by omega) (by omega) ?_
            rw [p1]
            have p2' : ¬ w.length < (fromT ws I).length := by omega
            revert p2 p3 p4 p5 p2'
            generalize fromT ws I = X
            intro p2 p3 p4 p5 p2'
            simp (disch := omega) [tup2, p2', sub_of k3]
            refine impl_ImageOf _ ws X _ _ r1 f1 (by omega) (by omega) ?_
            rw [p3, p4]
            simp (disch := omega) [tup2]
            exact ret_of (h _ sF)
          · have e0 := iterT_no hC1
            rw [e0]
            simp (disch := omega) [hC1]
            exact ret_of (h _ sF)
      · simp (disch := omega) [hC2a]
        by_cases hC3 : compC as_ bs = 0
        · obtain ⟨p1, p2⟩ := comp_is hC3
          have p3 := fun u (hu : u ∈ bs) => comp_img hC3 hu
          rw [p1, List.length_map] at k18
          rw [p1] at rc
          simp (disch := omega) [hC3]
          refine loop_to tab_ok [2, 37, 38, 39, 225, 226, 227, 228, 229, 230, 231, 232, 233, 234, 235, 236, 237, 238, 239, 240, 241, 242, 243, 244, 245, 246, 247, 248, 249, 250, 251, 252] (fun i : Nat => [(37, .int .i64 i)]) (fun i M' => NN = M' ∧ i ≤ bs.length) (fun i => bs.length - i) 0 (by kernel_rfl) (by simp (disch := omega)) ⟨rfl, by omega⟩ ?_
          rintro i M' g ⟨rfl, hi⟩
          by_cases hlt : i < bs.length
          · obtain ⟨bq, oq, hae, hat⟩ := strs_at0 r4 (by omega)
            obtain ⟨bz, oz, hze, haz⟩ := strs_at0 rc (by rw [List.length_map]; omega)
            subst hae hze
            have g1 := hat i hlt
            have g2 := haz i (by rw [List.length_map]; omega)
            have hmem := getD_mem (ws := bs) hlt
            have hl' := f4 _ hmem
            obtain ⟨q1, q2⟩ := p3 _ hmem
            have e1 : (bs.map (imgOf as_)).getD i [] = imgOf as_ (bs.getD i []) := by
              rw [List.getD_eq_getElem?_getD, List.getD_eq_getElem?_getD, List.getElem?_map, List.getElem?_eq_getElem hlt]; rfl
            rw [e1] at g2
            clear e1 hmem
            generalize bs.getD i [] = B at *
            generalize imgOf as_ B = Y at *
            simp (disch := omega) [sub_of k17, get_of k17]
            refine draw_to tab_ok (by kernel_rfl) (by kernel_rfl) (by rfl) ?_
            simp (disch := omega) [sub_of k16, get_of k16, sub_of k17, get_of k17, g1]
            refine vQCall_at (a := []) (c := []) (impl_ImageOf _ as_ _ _ _ r3 f3 (by omega) hl' ⟨rfl, rfl⟩) ?_
            rw [q1, q2]
            simp (disch := omega) [tup2, sub_of k18, get_of k18, g2]
            exact Rnd.mk' (i + 1) (by omega) (by (repeat (first | exact km | refine kp rfl ?_ | refine km' rfl ?_))) (by simp (disch := omega)) ⟨rfl, by omega⟩
          · have hi' : i = bs.length := by omega
            subst hi'
            simp (disch := omega) [sub_of k17, get_of k17]
            by_cases hC1 : iterC ws w 1 = 0
            · obtain ⟨p1, p2, p3, p4⟩ := from_img hC1
              have p5 := fromT_len hC1
              have p6 := iterT_len ws w 1
              revert p1 p2 p3 p4 p5 p6
              generalize iterT ws w 1 = I
              intro p1 p2 p3 p4 p5 p6
              simp (disch := omega) [hC1, sub_of k3]
              refine impl_WordFromImage _ ws I _ _ r1 f1 (by omega) (by omega) ?_
              simp (disch := omega) [tup2, sub_of k3]
              refine spec_WordFromImage _ ws I _ _ r1 f1 (by omega) (by omega) ?_
              rw [p1]
              have p2' : ¬ w.length < (fromT ws I).length := by omega
              revert p2 p3 p4 p5 p2'
              generalize fromT ws I = X
              intro p2 p3 p4 p5 p2'
              simp (disch := omega) [tup2, p2', sub_of k3]
              refine impl_ImageOf _ ws X _ _ r1 f1 (by omega) (by omega) ?_
              rw [p3, p4]
              simp (disch := omega) [tup2]
              exact ret_of (h _ sF)
            · have e0 := iterT_no hC1
              rw [e0]
              simp (disch := omega) [hC1]
              exact ret_of (h _ sF)
        · simp (disch := omega) [hC3]
          by_cases hC1 : iterC ws w 1 = 0
          · obtain ⟨p1, p2, p3, p4⟩ := from_img hC1
            have p5 := fromT_len hC1
            have p6 := iterT_len ws w 1
            revert p1 p2 p3 p4 p5 p6
            generalize iterT ws w 1 = I
            intro p1 p2 p3 p4 p5 p6
            simp (disch := omega) [hC1, sub_of k3]
            refine impl_WordFromImage _ ws I _ _ r1 f1 (by omega) (by omega) ?_
            simp (disch := omega) [tup2, sub_of k3]
            refine spec_WordFromImage _ ws I _ _ r1 f1 (by omega) (by omega) ?_
            rw [p1]
            have p2' : ¬ w.length < (fromT ws I).length := by omega
            revert p2 p3 p4 p5 p2'
            generalize fromT ws I = X
            intro p2 p3 p4 p5 p2'
            simp (disch := omega) [tup2, p2', sub_of k3]
            refine impl_ImageOf _ ws X _ _ r1 f1 (by omega) (by omega) ?_
            rw [p3, p4]
            simp (disch := omega) [tup2]
            exact ret_of (h _ sF)
          · have e0 := iterT_no hC1
            rw [e0]
            simp (disch := omega) [hC1]
            exact ret_of (h _ sF)
end Go.Proofs.YticejlplbibegaaGreatDoor

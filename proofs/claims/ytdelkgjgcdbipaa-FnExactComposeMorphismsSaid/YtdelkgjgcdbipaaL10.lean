/- Law of composed morphisms. -/
import Derived.Test.YtdelkgjgcdbipaaC25
import Derived.Test.YtdelkgjgcdbipaaL3
namespace Go.Proofs.Ytdelkgjgcdbipaa
open Go
set_option linter.unusedSimpArgs false
set_option linter.unusedVariables false

theorem Sub.over {M N : Mem} {b : Nat} (h : Sub M N) (hb : M b = none) (B : Blk) : Sub M (N.put b B) := by
  intro i Bi hi
  have : i ≠ b := by rintro rfl; rw [hb] at hi; cases hi
  rw [put_ne _ _ this]
  exact h _ _ hi
theorem Turn.mono {N N3 A B : Mem} {f : Mem → Mem} (t : Turn N N3 f) (h : Sub A B) : Sub (f A) (f B) := by
  rcases t.2 with rfl | ⟨b, X, X0, _, rfl⟩
  · exact h
  · exact h.both _ _
theorem Turn.at {N N3 A : Mem} {f : Mem → Mem} (t : Turn N N3 f) {b : Nat} (hb : N3 b = none) : (f A) b = A b := by
  rcases t.2 with rfl | ⟨b0, X, X0, h0, rfl⟩
  · rfl
  · have : b ≠ b0 := by rintro rfl; rw [hb] at h0; cases h0
    exact put_ne _ _ this
set_option maxHeartbeats 4000000 in
theorem law_ComposeMorphisms (v : Value) (ws : List (List UInt8)) (u : Value) (us : List (List UInt8)) (M : Mem) (R : Value → Mem → Prop) (hv : Rd M v (strs ws)) (hn : ws.length ≤ 9223372036854775807) (hw : ∀ w ∈ ws, w.length ≤ 9223372036854775807) (hu : Rd M u (strs us)) (hnu : us.length ≤ 9223372036854775807) (hwu : ∀ w ∈ us, w.length ≤ 9223372036854775807) (h : ∀ M', Sub M M' → R (.bool true) M') : Does Try.prog 12 [.agg #[v], .agg #[u]] M R := by
  refine does_fn tab_ok Try.func12 rfl (by kernel_rfl) (by kernel_rfl) Try.ntmps12 Try.results12 rfl ?_
  obtain ⟨a, c, rfl, ha⟩ := hv.opened
  obtain ⟨a', c', rfl, ha'⟩ := hu.opened
  rw [strs_length] at ha ha' hv hu ⊢
  rw [strs_length]
  simp (disch := omega)
  intro b2 hb2
  simp (disch := omega)
  intro b3 hb3
  have n3 := hb3
  rw [put_none] at n3
  have s3 : Sub M ((M.put b2 (.cells true [.slice a ws.length c] 1)).put b3 (.cells true [.slice a' us.length c'] 1)) := ((Sub.refl M).put hb2 _).putN hb3 _
  have k2 : ((M.put b2 (.cells true [.slice a ws.length c] 1)).put b3 (.cells true [.slice a' us.length c'] 1)) b2 = some (.cells true [.slice a ws.length c] 1) := by rw [put_ne _ _ (Ne.symm n3.1)]; exact put_same _ _ _
  have k3 : ((M.put b2 (.cells true [.slice a ws.length c] 1)).put b3 (.cells true [.slice a' us.length c'] 1)) b3 = some (.cells true [.slice a' us.length c'] 1) := put_same _ _ _
  have hvN1 := hv.sub s3
  have huN1 := hu.sub s3
  generalize (M.put b2 (.cells true [.slice a ws.length c] 1)).put b3 (.cells true [.slice a' us.length c'] 1) = N1 at *
  simp (disch := omega) [sub_of k2, sub_of k3]
  refine szMorphism_does _ ws 1048576 _ _ hvN1 hn hw (by omega) ?_ ?_
  · intro hle
    obtain ⟨p, hp⟩ : ∃ p, p = 1048576 - (ws.length + sumL ws) := ⟨_, rfl⟩
    rw [← hp]
    have hsm0 : ws.length ≤ 1048576 := by omega
    have hf0 : Fine ws := fun w hw => by have := sumL_mem hw; omega
    simp (disch := omega) [sub_of k2, sub_of k3]
    refine szMorphism_does _ us p _ _ huN1 hnu hwu (by omega) ?_ ?_
    · intro hle2
      obtain ⟨p2, hp2⟩ : ∃ p2, p2 = p - (us.length + sumL us) := ⟨_, rfl⟩
      rw [← hp2]
      have hsm1 : us.length ≤ 1048576 := by omega
      have hf1 : Fine us := fun w hw => by have := sumL_mem hw; omega
      have spec_ComposeMorphisms := @spec_ComposeMorphisms
      have impl_ComposeMorphisms := @impl_ComposeMorphisms
      unfold MorR at spec_ComposeMorphisms impl_ComposeMorphisms
      have hWl : (compW ws us).length ≤ 1048576 := by unfold compW; split <;> simp; omega
      have spec_ComposeMorphisms := fun v u M R h1 h2 h3 h4 h5 h6 => spec_ComposeMorphisms v u ws us M R h1 h2 h3 h4 h5 h6
      have impl_ComposeMorphisms := fun v u M R h1 h2 h3 h4 h5 h6 => impl_ComposeMorphisms v u ws us M R h1 h2 h3 h4 h5 h6
      generalize compC ws us = code at *
      generalize compW ws us = W at *
      simp (disch := omega) [sub_of k2, sub_of k3]
      refine plays (lights [0, 2] (.alt 8 1 (.one 1 1 (.one 3 1 (.one 4 1 (lights [5, 6, 7] (.one 9 2 (lights [10] .fin)))))) (.one 1 1 (.alt 8 1 (.one 3 1 (.one 4 1 (lights [5, 6, 7] (.one 9 2 (lights [10] .fin))))) (.one 3 1 (.alt 8 1 (.one 4 1 (lights [5, 6, 7] (.one 9 2 (lights [10] .fin)))) (.one 4 1 (lights [5, 6, 7] (.one 8 1 (.one 9 2 (lights [10] .fin))))))))))) tab_ok (by kernel_rfl) (by kernel_rfl) (by rfl) ?_
      simp (disch := omega) [sub_of k2, sub_of k3, vT_alt]
      refine ⟨?p1a, ?q1a⟩
      case' p1a =>
        intro b6a hb6a
        have f6a : N1 b6a = none := none_of (Sub.refl N1) hb6a
        have sAa := (Sub.refl N1).put hb6a (.cells true [.slice none 0 0] 1)
        have kba : (N1.put b6a (.cells true [.slice none 0 0] 1)) b6a = some (.cells true [.slice none 0 0] 1) := put_same _ _ _
        simp (disch := omega)
        refine ⟨sAa, ?_⟩
        generalize hQa : N1.put b6a (.cells true [.slice none 0 0] 1) = Qa at *
        refine toMorphism_does _ ws _ _ ((hvN1).sub ((Sub.refl N1).trans sAa)) hsm0 ?_
        intro v0a T0a o0a
        simp (disch := omega)
        refine ⟨o0a.sub, ?_⟩
        refine toMorphism_does _ us _ _ ((huN1).sub (((Sub.refl N1).trans sAa).trans o0a.sub)) hsm1 ?_
        intro v1a T1a o1a
        simp (disch := omega)
        refine ⟨o1a.sub, ?_⟩
        refine spec_ComposeMorphisms v0a v1a _ _ (o0a.rd.sub o1a.sub) hf0 (by omega) o1a.rd hf1 (by omega) ?_
        intro ga Ga oga
        have fga := oga.flat
        simp (disch := omega)
        refine ⟨oga.sub, ?_⟩
        have kza := (oga.sub _ _ (o1a.sub _ _ (o0a.sub _ _ kba)))
        have rga : Rd (Ga.put b6a (.cells true [ga] 1)) ga (strs W) := (oga.other (o1a.sub _ _ (o0a.sub _ _ kba)) _).rd
        have sga : Sub N1 (Ga.put b6a (.cells true [ga] 1)) := Sub.over (((((Sub.refl N1).trans sAa).trans o0a.sub).trans o1a.sub).trans oga.sub) f6a _
        simp (disch := omega) [kza, set_is, fga]
        generalize hZa : Ga.put b6a (.cells true [ga] 1) = Za at *
        have kga : Za b6a = some (.cells true [ga] 1) := by rw [← hZa]; exact put_same _ _ _
      case' q1a =>
        refine toMorphism_does _ ws _ _ ((hvN1).sub (Sub.refl N1)) hsm0 ?_
        intro v0a T0a o0a
        simp (disch := omega)
        refine ⟨o0a.sub, ?_⟩
        refine ⟨?p2a, ?q2a⟩
      case' p2a =>
        intro b6a hb6a
        have f6a : N1 b6a = none := none_of ((Sub.refl N1).trans o0a.sub) hb6a
        have sAa := (Sub.refl T0a).put hb6a (.cells true [.slice none 0 0] 1)
        have kba : (T0a.put b6a (.cells true [.slice none 0 0] 1)) b6a = some (.cells true [.slice none 0 0] 1) := put_same _ _ _
        simp (disch := omega)
        refine ⟨sAa, ?_⟩
        generalize hQa : T0a.put b6a (.cells true [.slice none 0 0] 1) = Qa at *
        refine toMorphism_does _ us _ _ ((huN1).sub (((Sub.refl N1).trans o0a.sub).trans sAa)) hsm1 ?_
        intro v1a T1a o1a
        simp (disch := omega)
        refine ⟨o1a.sub, ?_⟩
        refine spec_ComposeMorphisms v0a v1a _ _ ((o0a.rd.sub sAa).sub o1a.sub) hf0 (by omega) o1a.rd hf1 (by omega) ?_
        intro ga Ga oga
        have fga := oga.flat
        simp (disch := omega)
        refine ⟨oga.sub, ?_⟩
        have kza := (oga.sub _ _ (o1a.sub _ _ kba))
        have rga : Rd (Ga.put b6a (.cells true [ga] 1)) ga (strs W) := (oga.other (o1a.sub _ _ kba) _).rd
        have sga : Sub N1 (Ga.put b6a (.cells true [ga] 1)) := Sub.over (((((Sub.refl N1).trans o0a.sub).trans sAa).trans o1a.sub).trans oga.sub) f6a _
        simp (disch := omega) [kza, set_is, fga]
        generalize hZa : Ga.put b6a (.cells true [ga] 1) = Za at *
        have kga : Za b6a = some (.cells true [ga] 1) := by rw [← hZa]; exact put_same _ _ _
      case' q2a =>
        refine toMorphism_does _ us _ _ ((huN1).sub ((Sub.refl N1).trans o0a.sub)) hsm1 ?_
        intro v1a T1a o1a
        simp (disch := omega)
        refine ⟨o1a.sub, ?_⟩
        refine ⟨?p3a, ?q3a⟩
      case' p3a =>
        intro b6a hb6a
        have f6a : N1 b6a = none := none_of (((Sub.refl N1).trans o0a.sub).trans o1a.sub) hb6a
        have sAa := (Sub.refl T1a).put hb6a (.cells true [.slice none 0 0] 1)
        have kba : (T1a.put b6a (.cells true [.slice none 0 0] 1)) b6a = some (.cells true [.slice none 0 0] 1) := put_same _ _ _
        simp (disch := omega)
        refine ⟨sAa, ?_⟩
        generalize hQa : T1a.put b6a (.cells true [.slice none 0 0] 1) = Qa at *
        refine spec_ComposeMorphisms v0a v1a _ _ ((o0a.rd.sub o1a.sub).sub sAa) hf0 (by omega) (o1a.rd.sub sAa) hf1 (by omega) ?_
        intro ga Ga oga
        have fga := oga.flat
        simp (disch := omega)
        refine ⟨oga.sub, ?_⟩
        have kza := (oga.sub _ _ kba)
        have rga : Rd (Ga.put b6a (.cells true [ga] 1)) ga (strs W) := (oga.other kba _).rd
        have sga : Sub N1 (Ga.put b6a (.cells true [ga] 1)) := Sub.over (((((Sub.refl N1).trans o0a.sub).trans o1a.sub).trans sAa).trans oga.sub) f6a _
        simp (disch := omega) [kza, set_is, fga]
        generalize hZa : Ga.put b6a (.cells true [ga] 1) = Za at *
        have kga : Za b6a = some (.cells true [ga] 1) := by rw [← hZa]; exact put_same _ _ _
      case' q3a =>
        refine spec_ComposeMorphisms v0a v1a _ _ (o0a.rd.sub o1a.sub) hf0 (by omega) o1a.rd hf1 (by omega) ?_
        intro ga Ga oga
        have fga := oga.flat
        simp (disch := omega)
        refine ⟨oga.sub, ?_⟩
        intro b6a hb6a
        have f6a : N1 b6a = none := none_of ((((Sub.refl N1).trans o0a.sub).trans o1a.sub).trans oga.sub) hb6a
        have sAa := (Sub.refl Ga).put hb6a (.cells true [.slice none 0 0] 1)
        have rga : Rd (Ga.put b6a (.cells true [ga] 1)) ga (strs W) := oga.rd.put hb6a _
        have sga : Sub N1 (Ga.put b6a (.cells true [ga] 1)) := Sub.over ((((Sub.refl N1).trans o0a.sub).trans o1a.sub).trans oga.sub) f6a _
        simp (disch := omega) [fga]
        refine ⟨sAa, ?_⟩
        generalize hZa : Ga.put b6a (.cells true [ga] 1) = Za at *
        have kga : Za b6a = some (.cells true [ga] 1) := by rw [← hZa]; exact put_same _ _ _
      all_goals
        have hvZ := hvN1.sub sga
        have huZ := huN1.sub sga
        have m2 := sga _ _ k2
        have m3 := sga _ _ k3
        simp (disch := omega) [sub_of m2]
        refine toMorphism_does _ ws _ _ hvZ hsm0 ?_
        intro x0 N3 o3
        have f3 := o3.flat
        simp (disch := omega) [f3]
        intro b8 hb8
        have s8 := (Sub.refl N3).put hb8 (.cells true [x0] 1)
        have k8 : (N3.put b8 (.cells true [x0] 1)) b8 = some (.cells true [x0] 1) := put_same _ _ _
        simp (disch := omega) [f3]
        generalize N3.put b8 (.cells true [x0] 1) = N3p at *
        have l3 := s8 _ _ (o3.sub _ _ m3)
        simp (disch := omega) [sub_of l3]
        refine toMorphism_does _ us _ _ ((huZ.sub o3.sub).sub s8) hsm1 ?_
        intro x1 N5 o5
        have f5 := o5.flat
        simp (disch := omega) [f5]
        intro b9 hb9
        have s9 := (Sub.refl N5).put hb9 (.cells true [x1] 1)
        have k9 : (N5.put b9 (.cells true [x1] 1)) b9 = some (.cells true [x1] 1) := put_same _ _ _
        simp (disch := omega) [f5]
        generalize N5.put b9 (.cells true [x1] 1) = N5p at *
        have l8 := s9 _ _ (o5.sub _ _ k8)
        have s35 := s8.trans (o5.sub.trans s9)
        simp (disch := omega) [sub_of l8, sub_of k9]
        refine impl_ComposeMorphisms _ _ _ _ (o3.rd.sub s35) hf0 (by omega) (o5.rd.sub s9) hf1 (by omega) ?_
        intro g2 K2 og2
        have fg2 := og2.flat
        simp (disch := omega) [fg2]
        intro b10 hb10
        have n10 : N5p b10 = none := none_of og2.sub hb10
        have p1 := og2.push hb10 (.cells true [g2] 1)
        have s10 := (Sub.refl N5p).put n10 (.cells true [g2] 1)
        have k10 : (N5p.put b10 (.cells true [g2] 1)) b10 = some (.cells true [g2] 1) := put_same _ _ _
        simp (disch := omega) [fg2]
        generalize K2.put b10 (.cells true [g2] 1) = K3 at *
        generalize N5p.put b10 (.cells true [g2] 1) = A1 at *
        have sZA : Sub Za A1 := (o3.sub.trans s35).trans s10
        have sA1 := p1.sub
        have j6 := (sZA.trans sA1) _ _ kga
        have j10 := sA1 _ _ k10
        have j8 := (s10.trans sA1) _ _ l8
        have j9 := (s10.trans sA1) _ _ k9
        have j2 := (sZA.trans sA1) _ _ m2
        have j3 := (sZA.trans sA1) _ _ m3
        simp (disch := omega) [sub_of j10, sub_of j6]
        refine eqMorphism_does g2 ga W W _ _ p1.rd (rga.sub (sZA.trans sA1)) (by omega) (by omega) ?_
        simp (disch := omega)
        refine draws_to 2 1 tab_ok (by kernel_rfl) (by kernel_rfl) (by rfl) ?_
        simp (disch := omega) [sub_of j8, sub_of j2]
        refine toMorphism_does _ ws _ _ (hvZ.sub (sZA.trans sA1)) hsm0 ?_
        intro v6 N6 o6
        simp (disch := omega)
        refine ⟨o6.sub, ?_⟩
        refine eqMorphism_does _ _ ws ws _ _ (o3.rd.sub (((s35.trans s10).trans sA1).trans o6.sub)) o6.rd (by omega) (by omega) ?_
        obtain ⟨A2, p2', sA2⟩ := o6.over p1
        have j9 := o6.sub _ _ j9
        have j3 := o6.sub _ _ j3
        simp (disch := omega)
        refine draws_to 2 1 tab_ok (by kernel_rfl) (by kernel_rfl) (by rfl) ?_
        simp (disch := omega) [sub_of j9, sub_of j3]
        refine toMorphism_does _ us _ _ (huZ.sub ((sZA.trans sA1).trans o6.sub)) hsm1 ?_
        intro v7 N7 o7
        simp (disch := omega)
        refine ⟨o7.sub, ?_⟩
        refine eqMorphism_does _ _ us us _ _ (o5.rd.sub ((((s9.trans s10)).trans sA1).trans (o6.sub.trans o7.sub))) o7.rd (by omega) (by omega) ?_
        obtain ⟨A3, p3', sA3⟩ := o7.over p2'
        have j8 := (o6.sub.trans o7.sub) _ _ j8
        have sA13 := sA2.trans sA3
        have s3A := ((s35.trans s10).trans sA13)
        have s5A := ((s9.trans s10).trans sA13)
        simp (disch := omega) [sub_of j8]
        refine markMorphism_on x0 (strs ws) 1 Za N3 _ _ o3 (s3A.trans p3'.sub) (by rw [strs_length]; omega) (by omega) (by omega) ?_
        intro f tf
        have p8 := p3'.turn tf s3A
        have o5' := o5.turn tf s8
        have n39 : N3 b9 = none := none_of (s8.trans o5.sub) hb9
        have n310 : N3 b10 = none := none_of s35 n10
        have n510 : N5 b10 = none := none_of s9 n10
        have q9 : (f A3) b9 = some (.cells true [x1] 1) := by rw [tf.at n39]; exact (s10.trans sA13) _ _ k9
        have q10 : (f A3) b10 = some (.cells true [g2] 1) := by rw [tf.at n310]; exact sA13 _ _ k10
        have r9 := p8.sub _ _ q9
        rw [strs_length]
        simp (disch := omega) [sub_of r9]
        refine markMorphism_on x1 (strs us) _ (f N3p) (f N5) _ _ o5' ((tf.mono s5A).trans p8.sub) (by rw [strs_length]; omega) (by omega) (by omega) ?_
        intro f2 tf2
        have p9 := p8.turn tf2 (tf.mono s5A)
        have e10 : (f2 (f A3)) b10 = some (.cells true [g2] 1) := by rw [tf2.at (by rw [tf.at n310]; exact n510)]; exact q10
        have sZF : Sub Za (f2 (f A3)) := (tf.keep s8).trans (tf2.keep (tf.mono s5A))
        have t10 := p9.sub _ _ e10
        have t6 := (sZF.trans p9.sub) _ _ kga
        rw [strs_length]
        generalize f2 (f A3) = F at *
        generalize f2 (f N7) = F7 at *
        simp (disch := omega) [sub_of t10, sub_of t6]
        refine eqMorphism_does g2 ga W W _ _ p9.rd (rga.sub (sZF.trans p9.sub)) (by omega) (by omega) ?_
        simp (disch := omega) [sub_of t10]
        refine markMorphism_own g2 (strs W) 1 F _ _ p9 (by rw [strs_length]; omega) (by omega) (by omega) ?_
        rw [strs_length]
        intro X oX
        have x10 := oX.sub _ _ e10
        simp (disch := omega) [sub_of x10]
        refine heldMorphism_does g2 _ 1 _ _ oX.rd (by omega) (by omega) (by omega) ?_
        have sZX := sZF.trans oX.sub
        have hvX := hvZ.sub sZX
        have huX := huZ.sub sZX
        have y2 := sZX _ _ m2
        have y3 := sZX _ _ m3
        have y6 := sZX _ _ kga
        have rX := oX.rd
        have rZ := rga.sub sZX
        have sNX := (s3.trans sga).trans sZX
        simp (disch := omega) [sub_of y2, sub_of y3]
        refine plays (lights [0, 2] (.alt 8 1 (.one 1 1 (.one 3 1 (.one 4 1 (lights [5, 6, 7] (.one 9 2 (lights [10] .fin)))))) (.one 1 1 (.alt 8 1 (.one 3 1 (.one 4 1 (lights [5, 6, 7] (.one 9 2 (lights [10] .fin))))) (.one 3 1 (.alt 8 1 (.one 4 1 (lights [5, 6, 7] (.one 9 2 (lights [10] .fin)))) (.one 4 1 (lights [5, 6, 7] (.one 8 1 (.one 9 2 (lights [10] .fin))))))))))) tab_ok (by kernel_rfl) (by kernel_rfl) (by rfl) ?_
        simp (disch := omega) [sub_of y2, sub_of y3, vT_alt]
        refine ⟨?_, ?_⟩
        · skip
          intro b6b hb6b
          have f6b : X b6b = none := none_of (Sub.refl X) hb6b
          have sAb := (Sub.refl X).put hb6b (.cells true [.slice none 0 0] 1)
          have kbb : (X.put b6b (.cells true [.slice none 0 0] 1)) b6b = some (.cells true [.slice none 0 0] 1) := put_same _ _ _
          simp (disch := omega)
          refine ⟨sAb, ?_⟩
          generalize hQb : X.put b6b (.cells true [.slice none 0 0] 1) = Qb at *
          refine toMorphism_does _ ws _ _ ((hvX).sub ((Sub.refl X).trans sAb)) hsm0 ?_
          intro v0b T0b o0b
          simp (disch := omega)
          refine ⟨o0b.sub, ?_⟩
          refine toMorphism_does _ us _ _ ((huX).sub (((Sub.refl X).trans sAb).trans o0b.sub)) hsm1 ?_
          intro v1b T1b o1b
          simp (disch := omega)
          refine ⟨o1b.sub, ?_⟩
          refine impl_ComposeMorphisms v0b v1b _ _ (o0b.rd.sub o1b.sub) hf0 (by omega) o1b.rd hf1 (by omega) ?_
          intro gb Gb ogb
          have fgb := ogb.flat
          simp (disch := omega)
          refine ⟨ogb.sub, ?_⟩
          have kzb := (ogb.sub _ _ (o1b.sub _ _ (o0b.sub _ _ kbb)))
          have rgb : Rd (Gb.put b6b (.cells true [gb] 1)) gb (strs W) := (ogb.other (o1b.sub _ _ (o0b.sub _ _ kbb)) _).rd
          have sgb : Sub X (Gb.put b6b (.cells true [gb] 1)) := Sub.over (((((Sub.refl X).trans sAb).trans o0b.sub).trans o1b.sub).trans ogb.sub) f6b _
          simp (disch := omega) [kzb, set_is, fgb]
          generalize hZb : Gb.put b6b (.cells true [gb] 1) = Zb at *
          have kgb : Zb b6b = some (.cells true [gb] 1) := by rw [← hZb]; exact put_same _ _ _
          have z10 := sgb _ _ x10
          have z6 := sgb _ _ y6
          simp (disch := omega) [sub_of kgb, sub_of z6]
          refine eqMorphism_does gb ga W W _ _ rgb (rZ.sub sgb) (by omega) (by omega) ?_
          simp (disch := omega) [sub_of z10]
          refine heldMorphism_does g2 _ 1 _ _ (rX.sub sgb) (by omega) (by omega) (by omega) ?_
          simp (disch := omega)
          exact ret_of (h _ (sNX.trans sgb))
        · skip
          refine toMorphism_does _ ws _ _ ((hvX).sub (Sub.refl X)) hsm0 ?_
          intro v0b T0b o0b
          simp (disch := omega)
          refine ⟨o0b.sub, ?_⟩
          refine ⟨?_, ?_⟩
          · skip
            intro b6b hb6b
            have f6b : X b6b = none := none_of ((Sub.refl X).trans o0b.sub) hb6b
            have sAb := (Sub.refl T0b).put hb6b (.cells true [.slice none 0 0] 1)
            have kbb : (T0b.put b6b (.cells true [.slice none 0 0] 1)) b6b = some (.cells true [.slice none 0 0] 1) := put_same _ _ _
            simp (disch := omega)
            refine ⟨sAb, ?_⟩
            generalize hQb : T0b.put b6b (.cells true [.slice none 0 0] 1) = Qb at *
            refine toMorphism_does _ us _ _ ((huX).sub (((Sub.refl X).trans o0b.sub).trans sAb)) hsm1 ?_
            intro v1b T1b o1b
            simp (disch := omega)
            refine ⟨o1b.sub, ?_⟩
            refine impl_ComposeMorphisms v0b v1b _ _ ((o0b.rd.sub sAb).sub o1b.sub) hf0 (by omega) o1b.rd hf1 (by omega) ?_
            intro gb Gb ogb
            have fgb := ogb.flat
            simp (disch := omega)
            refine ⟨ogb.sub, ?_⟩
            have kzb := (ogb.sub _ _ (o1b.sub _ _ kbb))
            have rgb : Rd (Gb.put b6b (.cells true [gb] 1)) gb (strs W) := (ogb.other (o1b.sub _ _ kbb) _).rd
            have sgb : Sub X (Gb.put b6b (.cells true [gb] 1)) := Sub.over (((((Sub.refl X).trans o0b.sub).trans sAb).trans o1b.sub).trans ogb.sub) f6b _
            simp (disch := omega) [kzb, set_is, fgb]
            generalize hZb : Gb.put b6b (.cells true [gb] 1) = Zb at *
            have kgb : Zb b6b = some (.cells true [gb] 1) := by rw [← hZb]; exact put_same _ _ _
            have z10 := sgb _ _ x10
            have z6 := sgb _ _ y6
            simp (disch := omega) [sub_of kgb, sub_of z6]
            refine eqMorphism_does gb ga W W _ _ rgb (rZ.sub sgb) (by omega) (by omega) ?_
            simp (disch := omega) [sub_of z10]
            refine heldMorphism_does g2 _ 1 _ _ (rX.sub sgb) (by omega) (by omega) (by omega) ?_
            simp (disch := omega)
            exact ret_of (h _ (sNX.trans sgb))
          · skip
            refine toMorphism_does _ us _ _ ((huX).sub ((Sub.refl X).trans o0b.sub)) hsm1 ?_
            intro v1b T1b o1b
            simp (disch := omega)
            refine ⟨o1b.sub, ?_⟩
            refine ⟨?_, ?_⟩
            · skip
              intro b6b hb6b
              have f6b : X b6b = none := none_of (((Sub.refl X).trans o0b.sub).trans o1b.sub) hb6b
              have sAb := (Sub.refl T1b).put hb6b (.cells true [.slice none 0 0] 1)
              have kbb : (T1b.put b6b (.cells true [.slice none 0 0] 1)) b6b = some (.cells true [.slice none 0 0] 1) := put_same _ _ _
              simp (disch := omega)
              refine ⟨sAb, ?_⟩
              generalize hQb : T1b.put b6b (.cells true [.slice none 0 0] 1) = Qb at *
              refine impl_ComposeMorphisms v0b v1b _ _ ((o0b.rd.sub o1b.sub).sub sAb) hf0 (by omega) (o1b.rd.sub sAb) hf1 (by omega) ?_
              intro gb Gb ogb
              have fgb := ogb.flat
              simp (disch := omega)
              refine ⟨ogb.sub, ?_⟩
              have kzb := (ogb.sub _ _ kbb)
              have rgb : Rd (Gb.put b6b (.cells true [gb] 1)) gb (strs W) := (ogb.other kbb _).rd
              have sgb : Sub X (Gb.put b6b (.cells true [gb] 1)) := Sub.over (((((Sub.refl X).trans o0b.sub).trans o1b.sub).trans sAb).trans ogb.sub) f6b _
              simp (disch := omega) [kzb, set_is, fgb]
              generalize hZb : Gb.put b6b (.cells true [gb] 1) = Zb at *
              have kgb : Zb b6b = some (.cells true [gb] 1) := by rw [← hZb]; exact put_same _ _ _
              have z10 := sgb _ _ x10
              have z6 := sgb _ _ y6
              simp (disch := omega) [sub_of kgb, sub_of z6]
              refine eqMorphism_does gb ga W W _ _ rgb (rZ.sub sgb) (by omega) (by omega) ?_
              simp (disch := omega) [sub_of z10]
              refine heldMorphism_does g2 _ 1 _ _ (rX.sub sgb) (by omega) (by omega) (by omega) ?_
              simp (disch := omega)
              exact ret_of (h _ (sNX.trans sgb))
            · skip
              refine impl_ComposeMorphisms v0b v1b _ _ (o0b.rd.sub o1b.sub) hf0 (by omega) o1b.rd hf1 (by omega) ?_
              intro gb Gb ogb
              have fgb := ogb.flat
              simp (disch := omega)
              refine ⟨ogb.sub, ?_⟩
              intro b6b hb6b
              have f6b : X b6b = none := none_of ((((Sub.refl X).trans o0b.sub).trans o1b.sub).trans ogb.sub) hb6b
              have sAb := (Sub.refl Gb).put hb6b (.cells true [.slice none 0 0] 1)
              have rgb : Rd (Gb.put b6b (.cells true [gb] 1)) gb (strs W) := ogb.rd.put hb6b _
              have sgb : Sub X (Gb.put b6b (.cells true [gb] 1)) := Sub.over ((((Sub.refl X).trans o0b.sub).trans o1b.sub).trans ogb.sub) f6b _
              simp (disch := omega) [fgb]
              refine ⟨sAb, ?_⟩
              generalize hZb : Gb.put b6b (.cells true [gb] 1) = Zb at *
              have kgb : Zb b6b = some (.cells true [gb] 1) := by rw [← hZb]; exact put_same _ _ _
              have z10 := sgb _ _ x10
              have z6 := sgb _ _ y6
              simp (disch := omega) [sub_of kgb, sub_of z6]
              refine eqMorphism_does gb ga W W _ _ rgb (rZ.sub sgb) (by omega) (by omega) ?_
              simp (disch := omega) [sub_of z10]
              refine heldMorphism_does g2 _ 1 _ _ (rX.sub sgb) (by omega) (by omega) (by omega) ?_
              simp (disch := omega)
              exact ret_of (h _ (sNX.trans sgb))
    · intro hlt
      simp (disch := omega)
      exact ret_sub s3 (h _ (Sub.refl _))
  · intro hlt
    simp (disch := omega)
    exact ret_sub s3 (h _ (Sub.refl _))
end Go.Proofs.Ytdelkgjgcdbipaa

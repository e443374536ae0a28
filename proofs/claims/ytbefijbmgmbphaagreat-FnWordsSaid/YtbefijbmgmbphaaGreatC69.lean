/- Draws: names and numbers. -/
import Derived.Test.YtbefijbmgmbphaaGreatC68
namespace Go.Proofs.YtbefijbmgmbphaaGreat
open Go
set_option linter.unusedSimpArgs false
set_option linter.unusedVariables false

def names7 : List (List UInt8) := names4 ++ [[], [84, 104, 117, 101], [103, 111, 108, 100, 101, 110]]
theorem names7_len : names7.length = 7 := nr rfl
theorem names7_in : ∀ l ∈ names7, l.length ≤ 20 := by decide
theorem more3_eq : [str [], str [84, 104, 117, 101], str [103, 111, 108, 100, 101, 110]] = strs [[], [84, 104, 117, 101], [103, 111, 108, 100, 101, 110]] := nr rfl
theorem drawNm_does (v : Value) (xs : List UInt8) (M : Mem) (R : Value → Mem → Prop) (hv : Rd M v (bytesV xs)) (hl : xs.length ≤ 4096) (h : ∀ l k M', Sub M M' → (l : List UInt8).length ≤ 20 → R (.tuple #[str l, .int .i64 k]) M') : Does Tryz.prog 33 [v] M R := by
  refine does_fn tab_ok Tryz.func33 rfl (by kernel_rfl) (by kernel_rfl) Tryz.ntmps33 Tryz.results33 rfl ?_
  simp (disch := omega)
  refine from_does v xs _ _ hv hl ?_
  intro s M0 hs0 s0 hsrc
  have fin : ∀ M', DrR s M0 M' → Sub M M' := fun M' d => d.keep M hs0 s0
  simp (disch := omega)
  refine l01Names_does _ _ ?_
  intro bn hbn
  have o0 : Own M0 (.slice (some ⟨bn, 0, none⟩) 4 4) (strs names4) (M0.put bn (.cells true (strs names4) 4)) := Own.new hbn rfl (Nat.le_refl 4)
  simp (disch := omega)
  generalize M0.put bn (.cells true (strs names4) 4) = N0 at *
  generalize Value.slice (some ⟨bn, 0, none⟩) 4 4 = v0 at *
  intro b1 hb1
  simp (disch := omega)
  refine app_own o0 ((Sub.refl _).put hb1 _) (by simp (disch := omega); rfl) rfl rfl (by omega) (by rw [more3_eq]; exact flat_strs _) (by rw [strs_length, names4_len]; simp) ?_
  intro v1 A1 B1 o1 s1
  rw [more3_eq, strs_append] at o1
  have o1 : Own M0 v1 (strs names7) A1 := o1
  obtain ⟨a, c, rfl, ha⟩ := o1.rd.opened
  rw [strs_length, names7_len] at ha ⊢
  rcases ha with h0 | ⟨b, o, rfl, ha⟩
  · omega
  have src := (hsrc.sub o1.sub).sub s1
  simp (disch := omega)
  refine plays (lights [0, 1, 2, 3, 7] (.one 4 2 (lights [5] (.alt 6 1 (.one 8 2 (lights [9, 10] .fin)) (.one 8 2 (.one 6 1 (lights [9, 10] .fin))))))) tab_ok (by kernel_rfl) (by kernel_rfl) (by rfl) ?_
  simp (disch := omega) [vT_alt]
  refine nx_does s 7 _ _ src ?_
  intro y N2 _ hy e2
  have hy := hy (by omega)
  obtain ⟨y, rfl⟩ : ∃ k : Nat, y = k := ⟨y.toNat, by omega⟩
  obtain ⟨Mb2, K2, o2, z2, d2⟩ := own_draw o1 hsrc s1 e2
  have hyl : y < names7.length := by rw [names7_len]; omega
  have gA := ha y (by omega)
  rw [strs_get, List.getElem?_eq_getElem hyl] at gA
  have hl20 := names7_in _ (List.getElem_mem hyl)
  obtain ⟨D, r1, r2, r3⟩ := own_alone o1
  obtain ⟨aa, cc, hvv, haD⟩ := r1.opened
  rw [strs_length, names7_len] at hvv haD
  injection hvv with q1 q2 q3
  rcases haD with h0 | ⟨b9, o9, q4, haD⟩
  · omega
  rw [q4] at q1
  injection q1 with q1
  injection q1 with q5 q6
  subst q5
  subst q6
  have gD := haD y (by omega)
  rw [strs_get, List.getElem?_eq_getElem hyl] at gD
  have hDs : D s.b = none := r3 _ hsrc.told
  have kD2 := e2.keep D hDs (r2.trans s1)
  have g2 := get_keep gD kD2
  generalize names7[y] = l at *
  simp (disch := omega) [vT_alt, g2]
  refine ⟨?_, ?_⟩
  · skip
    refine near_does s 60 _ _ e2.src (by omega) ?_
    intro k N3 e3
    simp (disch := omega)
    exact ret_of (h l k _ (fin _ ((d2.trans (DrR.sub d2.src (o2.sub.trans z2))).trans e3)) hl20)
  · skip
    refine near_does s 60 _ _ e2.src (by omega) ?_
    intro k N3 e3
    have g3 := get_keep gD (e3.keep D hDs kD2)
    simp (disch := omega) [vT_alt, g3]
    exact ret_of (h l k _ (fin _ ((d2.trans (DrR.sub d2.src (o2.sub.trans z2))).trans e3)) hl20)
end Go.Proofs.YtbefijbmgmbphaaGreat

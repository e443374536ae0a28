/- Draws: words and patterns. -/
import Derived.Test.YtbefijbmgmbphaaC56
import Derived.Test.YtbefijbmgmbphaaC57
import Derived.Test.YtbefijbmgmbphaaM15
namespace Go.Proofs.Ytbefijbmgmbphaa
open Go
set_option linter.unusedSimpArgs false
set_option linter.unusedVariables false

theorem with_does (v : Value) (xs : List UInt8) (M : Mem) (R : Value → Mem → Prop) (hv : Rd M v (bytesV xs)) (hl : xs.length ≤ 4096) (h : ∀ w p M', Sub M M' → (w : List UInt8).length ≤ 1000 → (p : List UInt8).length ≤ 100 → R (.tuple #[str w, str p]) M') : Does Try.prog 110 [v] M R := by
  refine does_fn tab_ok Try.func110 rfl (by kernel_rfl) (by kernel_rfl) Try.ntmps110 Try.results110 rfl ?_
  simp (disch := omega)
  refine from_does v xs _ _ hv hl ?_
  intro s M0 hs0 s0 hsrc
  have fin : ∀ M', DrR s M0 M' → Sub M M' := fun M' d => d.keep M hs0 s0
  simp (disch := omega)
  refine pdraw_does s _ _ hsrc ?_
  intro p M1 hp d1
  simp (disch := omega)
  intro b1 hb1
  simp (disch := omega)
  have r1 := rd_fresh d1.src (w := true) (xs := ints [8, 14, 20]) (n := 3) (c := 3) hb1 rfl (Nat.le_refl 3)
  have d2 : DrR s M0 (M1.put b1 (.cells true (ints [8, 14, 20]) 3)) := d1.trans (DrR.sub d1.src ((Sub.refl _).put hb1 _))
  refine pick_does s _ [8, 14, 20] _ _ d2.src r1 (by simp) (by simp) ?_
  intro z hz M3 d3
  have hz : 1 ≤ z ∧ z ≤ 20 := by
    simp only [List.mem_cons, List.not_mem_nil, or_false] at hz
    omega
  have d3 := d2.trans d3
  simp (disch := omega)
  refine nx_does s z _ _ d3.src ?_
  intro n M4 _ hn d4
  have hn := hn (by omega)
  have d4 := d3.trans d4
  simp (disch := omega)
  intro b2 hb2
  simp (disch := omega)
  have r2 := rd_fresh d4.src (w := true) (xs := ints [2, 2, 3, 4]) (n := 4) (c := 4) hb2 rfl (Nat.le_refl 4)
  have d5 : DrR s M0 (M4.put b2 (.cells true (ints [2, 2, 3, 4]) 4)) := d4.trans (DrR.sub d4.src ((Sub.refl _).put hb2 _))
  refine pick_does s _ [2, 2, 3, 4] _ _ d5.src r2 (by simp) (by simp) ?_
  intro k hk M5 d6
  have hk : 1 ≤ k ∧ k ≤ 4 := by
    simp only [List.mem_cons, List.not_mem_nil, or_false] at hk
    omega
  have d6 := d5.trans d6
  simp (disch := omega)
  refine drawOf_does s n k _ _ d6.src (by omega) (by omega) ?_
  intro wd M6 hwd _ d7
  have d7 := d6.trans d7
  simp (disch := omega)
  refine nx_does s 4 _ _ d7.src ?_
  intro x M7 _ hx dd
  have dd := d7.trans dd
  by_cases x0 : x = 0
  · simp (disch := omega) [x0]
    refine nx_does s 3 _ _ dd.src ?_
    intro y1 N1 _ hy1 e1
    have hy1 := hy1 (by omega)
    have e1 := dd.trans e1
    simp (disch := omega)
    refine drawOf_does s (1 + y1) 2 _ _ e1.src (by omega) (by omega) ?_
    intro v0 N2 hv0 _ e2
    have e2 := e1.trans e2
    simp (disch := omega)
    refine nx_does s 2 _ _ e2.src ?_
    intro y2 N3 _ hy2 e3
    have hy2 := hy2 (by omega)
    have e3 := e2.trans e3
    simp (disch := omega)
    refine drawOf_does s (1 + y2) 3 _ _ e3.src (by omega) (by omega) ?_
    intro v1 N4 hv1 _ e4
    have e4 := e3.trans e4
    simp (disch := omega)
    refine nx_does s 2 _ _ e4.src ?_
    intro y3 N5 _ hy3 e5
    have hy3 := hy3 (by omega)
    have e5 := e4.trans e5
    simp (disch := omega)
    refine drawOf_does s (1 + y3) 3 _ _ e5.src (by omega) (by omega) ?_
    intro v2 N6 hv2 _ e6
    have e6 := e5.trans e6
    simp (disch := omega)
    intro bv hbv
    simp (disch := omega)
    have kv : (N6.put bv (.cells true (strs [v0, v1, v2]) 3)) bv = some (.cells true (strs [v0, v1, v2]) 3) := put_same _ _ _
    have e7 : DrR s M0 (N6.put bv (.cells true (strs [v0, v1, v2]) 3)) := e6.trans (DrR.sub e6.src ((Sub.refl _).put hbv _))
    have hall : ∀ j, j < 3 → (([v0, v1, v2] : List (List UInt8)).getD j []).length ≤ 3 := by
      intro j hj
      have : j = 0 ∨ j = 1 ∨ j = 2 := by omega
      rcases this with rfl | rfl | rfl
      · show v0.length ≤ 3
        omega
      · show v1.length ≤ 3
        omega
      · show v2.length ≤ 3
        omega
    have hget : ∀ j, j < 3 → (N6.put bv (.cells true (strs [v0, v1, v2]) 3)).get? bv j = some (str (([v0, v1, v2] : List (List UInt8)).getD j [])) := by
      intro j hj
      rw [get_of kv, strs_get, List.getElem?_eq_getElem (by simpa using hj), List.getD_eq_getElem?_getD, List.getElem?_eq_getElem (by simpa using hj)]; rfl
    have hmm : strs [v0, v1, v2] = [str v0, str v1, str v2] := nr rfl
    rw [hmm] at e7 hget
    generalize N6.put bv (.cells true [str v0, str v1, str v2] 3) = N7 at *
    refine loop_to tab_ok [8, 9, 44, 45, 46, 47, 48, 49, 50, 51, 52, 53, 54, 55, 56, 57, 58] (fun x : Nat × List UInt8 => [(9, .int .i64 x.1), (8, str x.2)]) (fun x M' => N7 = M' ∧ x.1 ≤ p.length ∧ x.2.length ≤ 3 * x.1) (fun x => p.length - x.1) (0, []) (by kernel_rfl) (by simp (disch := omega)) ⟨rfl, by omega, by simp⟩ ?_
    rintro ⟨i, own⟩ M' g ⟨rfl, hi, ho⟩
    simp only at hi ho
    have hp8 := hp.1
    by_cases hlt : i < p.length
    · have hpx : p[i]? = some p[i] := List.getElem?_eq_getElem hlt
      have hpr := hp.2 _ (List.getElem_mem hlt)
      obtain ⟨j, hj⟩ : ∃ j, j = p[i].toNat - 65 := ⟨_, rfl⟩
      have hg := hget j (by omega)
      have hlj := hall j (by omega)
      have hj' : (p[i].toNat : Int) - 65 = j := by omega
      generalize ([v0, v1, v2] : List (List UInt8)).getD j [] = u at *
      generalize p[i] = c at *
      simp (disch := omega) [hpx, at_u8 hpx, hj', hg]
      refine Rnd.mk' (i + 1, own ++ u) (by simp only; omega) (by (repeat (first | exact km | refine kp rfl ?_ | refine km' rfl ?_))) (by simp (disch := omega)) ⟨rfl, by simp only; omega, by simp only [List.length_append]; omega⟩
    · simp (disch := omega)
      refine nx_does s 4 _ _ e7.src ?_
      intro y4 N8 _ hy4 e8
      have hy4 := hy4 (by omega)
      have e8 := e7.trans e8
      simp (disch := omega)
      refine drawOf_does s y4 3 _ _ e8.src (by omega) (by omega) ?_
      intro u1 N9 hu1 _ e9
      have e9 := e8.trans e9
      simp (disch := omega)
      refine nx_does s 3 _ _ e9.src ?_
      intro y5 N10 _ hy5 e10
      have hy5 := hy5 (by omega)
      have e10 := e9.trans e10
      simp (disch := omega)
      refine drawOf_does s y5 3 _ _ e10.src (by omega) (by omega) ?_
      intro u2 N11 hu2 _ e11
      have dd := e10.trans e11
      have hwd : (u1 ++ own ++ u2).length ≤ 40 := by simp only [List.length_append]; omega
      simp (disch := omega)
      try simp only [List.append_assoc] at hwd
      try simp only [List.append_assoc]
      generalize u1 ++ (own ++ u2) = wd at *
      refine bad_does s wd _ _ dd.src (by omega) ?_
      intro w9 M8 hw9 d8
      simp (disch := omega)
      refine pbad_does s p _ _ d8.src (by have := hp.1; omega) ?_
      intro p9 M9 hp9 d9
      simp (disch := omega)
      exact ret_of (h w9 p9 _ (fin _ ((dd.trans d8).trans d9)) (by omega) (by have := hp.1; omega))
  · by_cases x1 : x = 1
    · simp (disch := omega) [x1]
      refine small_does s _ _ dd.src ?_
      intro wd N1 hwd e1
      have dd := dd.trans e1
      simp (disch := omega)
      refine bad_does s wd _ _ dd.src (by omega) ?_
      intro w9 M8 hw9 d8
      simp (disch := omega)
      refine pbad_does s p _ _ d8.src (by have := hp.1; omega) ?_
      intro p9 M9 hp9 d9
      simp (disch := omega)
      exact ret_of (h w9 p9 _ (fin _ ((dd.trans d8).trans d9)) (by omega) (by have := hp.1; omega))
    · simp (disch := omega) [x0, x1]
      refine bad_does s wd _ _ dd.src (by omega) ?_
      intro w9 M8 hw9 d8
      simp (disch := omega)
      refine pbad_does s p _ _ d8.src (by have := hp.1; omega) ?_
      intro p9 M9 hp9 d9
      simp (disch := omega)
      exact ret_of (h w9 p9 _ (fin _ ((dd.trans d8).trans d9)) (by omega) (by have := hp.1; omega))
end Go.Proofs.Ytbefijbmgmbphaa

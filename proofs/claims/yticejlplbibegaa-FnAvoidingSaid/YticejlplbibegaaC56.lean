/- Draws: small words, damaged words, patterns; words and patterns. -/
import Derived.Test.YticejlplbibegaaC46
namespace Go.Proofs.Yticejlplbibegaa
open Go
set_option linter.unusedSimpArgs false
set_option linter.unusedVariables false

def signs10 : List (List UInt8) := [[97], [98], [99], [101], [102], [65], [32], [44], [48], [10]]
theorem signs10_len : signs10.length = 10 := nr rfl
theorem signs10_in : ∀ l ∈ signs10, l.length = 1 := by decide
theorem signs10_eq : [str [97], str [98], str [99], str [101], str [102], str [65], str [32], str [44], str [48], str [10]] = strs signs10 := nr rfl
def pats10 : List (List UInt8) := [[65, 65], [65, 66, 65], [65, 65, 65], [65, 66, 65, 66], [65, 66, 66, 65], [65, 66, 65, 67, 65, 66, 65], [65, 65, 66, 66], [65, 66, 67, 65, 66], [65, 66, 65, 67], [65, 66, 67, 66, 65]]
/-- Texts of at most eight of the letters A, B, C. -/
def PatOk (p : List UInt8) : Prop := p.length ≤ 8 ∧ ∀ u ∈ p, 65 ≤ u.toNat ∧ u.toNat ≤ 67
theorem pats10_len : pats10.length = 10 := nr rfl
theorem pats10_in : ∀ l ∈ pats10, PatOk l := by
  intro l hl
  have h : ∀ l ∈ pats10, l.length ≤ 8 ∧ l.all (fun u => decide (65 ≤ u.toNat ∧ u.toNat ≤ 67)) = true := by decide
  obtain ⟨h1, h2⟩ := h l hl
  exact ⟨h1, fun u hu => of_decide_eq_true (List.all_eq_true.1 h2 u hu)⟩
theorem pats10_eq : [str [65, 65], str [65, 66, 65], str [65, 65, 65], str [65, 66, 65, 66], str [65, 66, 66, 65], str [65, 66, 65, 67, 65, 66, 65], str [65, 65, 66, 66], str [65, 66, 67, 65, 66], str [65, 66, 65, 67], str [65, 66, 67, 66, 65]] = strs pats10 := nr rfl
def vars3 : List (List UInt8) := [[65], [66], [67]]
theorem vars3_len : vars3.length = 3 := nr rfl
theorem vars3_in : ∀ l ∈ vars3, ∃ u : UInt8, l = [u] ∧ 65 ≤ u.toNat ∧ u.toNat ≤ 67 := by
  intro l hl
  simp only [vars3, List.mem_cons, List.not_mem_nil, or_false] at hl
  rcases hl with rfl | rfl | rfl
  · exact ⟨65, rfl, by decide, by decide⟩
  · exact ⟨66, rfl, by decide, by decide⟩
  · exact ⟨67, rfl, by decide, by decide⟩
theorem vars3_eq : [str [65], str [66], str [67]] = strs vars3 := nr rfl
theorem pbad_does (s : Rng) (t : List UInt8) (M : Mem) (R : Value → Mem → Prop) (hs : SrcR M s) (ht : t.length ≤ 900) (h : ∀ w M', (w : List UInt8).length ≤ t.length + 10 → DrR s M M' → R (str w) M') : Does Try.prog 34 [.pointer (some ⟨s.b, 0, none⟩), str t] M R := by
  refine does_fn tab_ok Try.func34 rfl (by kernel_rfl) (by kernel_rfl) Try.ntmps34 Try.results34 rfl ?_
  simp (disch := omega)
  refine nx_does s 40 _ _ hs ?_
  intro x M1 _ hx d1
  by_cases x0 : x = 0
  · simp (disch := omega) [x0]
    exact ret_of (h [] _ (by simp) d1)
  · by_cases x1 : x = 1
    · simp (disch := omega) [x1]
      refine ret_of (h _ _ ?_ d1)
      rw [List.length_append, List.length_singleton]; omega
    · by_cases x2 : x = 2
      · simp (disch := omega) [x2]
        refine ret_of (h _ _ ?_ d1)
        simp only [List.length_cons, List.length_nil]; omega
      · simp (disch := omega) [x0, x1, x2]
        exact ret_of (h t _ (by omega) d1)
theorem pdraw_does (s : Rng) (M : Mem) (R : Value → Mem → Prop) (hs : SrcR M s) (h : ∀ p M', PatOk p → DrR s M M' → R (str p) M') : Does Try.prog 35 [.pointer (some ⟨s.b, 0, none⟩)] M R := by
  refine does_fn tab_ok Try.func35 rfl (by kernel_rfl) (by kernel_rfl) Try.ntmps35 Try.results35 rfl ?_
  simp (disch := omega)
  refine nx_does s 2 _ _ hs ?_
  intro x M1 _ hx d1
  by_cases x0 : x = 0
  · simp (disch := omega) [x0, pats10_eq, pats10_len]
    intro bn hbn
    simp (disch := omega) [pats10_len]
    have kn : (M1.put bn (.cells true (strs pats10) 10)) bn = some (.cells true (strs pats10) 10) := put_same _ _ _
    have nb : bn ≠ s.b := by rintro rfl; exact d1.src.told hbn
    have d2 : DrR s M (M1.put bn (.cells true (strs pats10) 10)) := d1.trans (DrR.sub d1.src ((Sub.refl _).put hbn _))
    generalize M1.put bn (.cells true (strs pats10) 10) = M2 at *
    refine nx_does s 10 _ _ d2.src ?_
    intro y M3 _ hy d3
    have hy := hy (by omega)
    obtain ⟨j, rfl⟩ : ∃ j : Nat, y = j := ⟨y.toNat, by omega⟩
    have hj : j < pats10.length := by rw [pats10_len]; omega
    have gl := get_of (d3.at nb kn) j
    rw [strs_get, List.getElem?_eq_getElem hj, Option.map_some] at gl
    have hl1 := pats10_in _ (List.getElem_mem hj)
    generalize pats10[j] = l at *
    simp (disch := omega) [gl]
    exact ret_of (h l _ hl1 (d2.trans d3))
  · simp (disch := omega) [x0]
    intro bn hbn
    simp (disch := omega)
    have r5 := rd_fresh d1.src (w := true) (xs := ints [4, 6, 8]) (n := 3) (c := 3) hbn rfl (Nat.le_refl 3)
    have d2 : DrR s M (M1.put bn (.cells true (ints [4, 6, 8]) 3)) := d1.trans (DrR.sub d1.src ((Sub.refl _).put hbn _))
    refine pick_does s _ [4, 6, 8] _ _ d2.src r5 (by simp) (by simp) ?_
    intro z hz M3 d3
    have hz : 1 ≤ z ∧ z ≤ 8 := by
      simp only [List.mem_cons, List.not_mem_nil, or_false] at hz
      omega
    have d3 := d2.trans d3
    simp (disch := omega)
    refine nx_does s z _ _ d3.src ?_
    intro y M4 _ hy d4
    have hy := hy (by omega)
    obtain ⟨n, rfl⟩ : ∃ n : Nat, y = n := ⟨y.toNat, by omega⟩
    have hn : n ≤ 7 := by omega
    have d4 := d3.trans d4
    simp (disch := omega)
    refine loop_to tab_ok [3, 4, 19, 20, 21, 22, 23, 24, 25, 26, 27, 28, 29, 30, 31, 32] (fun u : List UInt8 => [(3, str u), (4, .int .i64 (1 + (n : Int) - u.length))]) (fun u M' => u.length ≤ n + 1 ∧ (∀ c ∈ u, 65 ≤ c.toNat ∧ c.toNat ≤ 67) ∧ DrR s M M') (fun u => n + 1 - u.length) [] (by kernel_rfl) (by simp (disch := omega)) ⟨by simp, by simp, d4⟩ ?_
    rintro u M5 g ⟨hu, hc, d5⟩
    by_cases hlt : (0 : Int) < 1 + (n : Int) - u.length
    · simp (disch := omega) [hlt, vars3_eq, vars3_len]
      intro b1 hb1
      have k1 : (M5.put b1 (.cells true (strs vars3) 3)) b1 = some (.cells true (strs vars3) 3) := put_same _ _ _
      have nb : b1 ≠ s.b := by rintro rfl; exact d5.src.told hb1
      have d6 : DrR s M (M5.put b1 (.cells true (strs vars3) 3)) := d5.trans (DrR.sub d5.src ((Sub.refl _).put hb1 _))
      simp (disch := omega) [vars3_len]
      generalize M5.put b1 (.cells true (strs vars3) 3) = M6 at *
      intro b2 hb2
      simp (disch := omega)
      have k2 := (Sub.refl M6).put hb2 (.cells true (ints [1, 2, 3, 3]) 4) _ _ k1
      have r6 := rd_fresh d6.src (w := true) (xs := ints [1, 2, 3, 3]) (n := 4) (c := 4) hb2 rfl (Nat.le_refl 4)
      have d7 : DrR s M (M6.put b2 (.cells true (ints [1, 2, 3, 3]) 4)) := d6.trans (DrR.sub d6.src ((Sub.refl _).put hb2 _))
      refine pick_does s _ [1, 2, 3, 3] _ _ d7.src r6 (by simp) (by simp) ?_
      intro z2 hz2 M8 d8
      have hz2 : 1 ≤ z2 ∧ z2 ≤ 3 := by
        simp only [List.mem_cons, List.not_mem_nil, or_false] at hz2
        omega
      simp (disch := omega)
      refine nx_does s z2 _ _ d8.src ?_
      intro y2 M9 _ hy2 d9
      have hy2 := hy2 (by omega)
      obtain ⟨j, rfl⟩ : ∃ j : Nat, y2 = j := ⟨y2.toNat, by omega⟩
      have hj : j < vars3.length := by rw [vars3_len]; omega
      have gl := get_of (d9.at nb (d8.at nb k2)) j
      rw [strs_get, List.getElem?_eq_getElem hj, Option.map_some] at gl
      obtain ⟨c, hce, hc1⟩ := vars3_in _ (List.getElem_mem hj)
      rw [hce] at gl
      have hln : (u ++ [c]).length = u.length + 1 := by rw [List.length_append, List.length_singleton]
      have hj3 : (j : Int) < 3 := by omega
      simp (disch := omega) [gl, hj3]
      refine Rnd.mk' (u ++ [c]) (by rw [hln]; omega) (by (repeat (first | exact km | refine kp rfl ?_ | refine km' rfl ?_))) (by simp (disch := omega); omega) ⟨by rw [hln]; omega, ?_, (d7.trans d8).trans d9⟩
      intro c' hc'
      rcases List.mem_append.1 hc' with h1 | h1
      · exact hc c' h1
      · rw [List.mem_singleton.1 h1]; exact hc1
    · simp (disch := omega) [hlt]
      exact ret_of (h u _ ⟨by omega, hc⟩ d5)
end Go.Proofs.Yticejlplbibegaa

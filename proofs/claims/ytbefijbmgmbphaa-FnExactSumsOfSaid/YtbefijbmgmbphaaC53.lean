/- Contracts: numbers sorted and compacted; sums of words; sums of factors. -/
import Derived.Test.YtbefijbmgmbphaaC52
namespace Go.Proofs.Ytbefijbmgmbphaa
open Go Go.RowKit
set_option linter.unusedSimpArgs false
set_option linter.unusedVariables false

theorem holds_rowI {M : Mem} {w : World} (hw : Rep M w) {b c : Nat} {zs : List Int} (hM : M b = some (.cells true (ints zs) c)) : Sort.Holds (Value.int .i64) w b 0 zs.toArray := by
  intro j hj
  have hj' : j < zs.length := by simpa using hj
  have hg : M.get? b (0 + j) = some (.int .i64 zs[j]) := by rw [get_of hM, Nat.zero_add, ints_get, List.getElem?_eq_getElem hj']; rfl
  refine ⟨?_, ?_⟩
  · rw [hw.cell hg, getElem!_pos _ j hj]
    rfl
  · obtain ⟨cc, e, fr, h1, h2, ⟨ys, h3⟩, h4⟩ := hw b _ hM
    have hle := hw.le hM
    rw [ints_length] at hle
    have := h4 rfl
    obtain ⟨lo, hi⟩ := fr
    simp only [World.frozen?, h1, Nat.zero_add, Bool.and_eq_false_iff, decide_eq_false_iff_not]
    simp only at this
    omega
theorem sortI_does (b c : Nat) (zs : List Int) (M : Mem) (R : Value → Mem → Prop) (hM : M b = some (.cells true (ints zs) c)) (hn : zs.length ≤ 1000000)
    (h : R (.tuple #[]) (M.put b (.cells true (ints (zs.mergeSort fun x y => decide (x ≤ y))) c))) : Does Try.prog 120 [.slice (some ⟨b, 0, none⟩) zs.length c] M R := by
  refine does_row (.tuple #[]) ⟨_, Try.func120, by kernel_rfl, by kernel_rfl⟩ (Value.int .i64) hM (zs.mergeSort fun x y => decide (x ≤ y)).toArray (by simp [ints_length]) (fun w hw => ?_) ?_
  · exact Try.slices_Sort_int b 0 c zs w (holds_rowI hw hM) (told_lt hw hM) (by omega)
  · exact h
theorem sortI0_does (M : Mem) (R : Value → Mem → Prop) (h : R (.tuple #[]) M) : Does Try.prog 120 [.slice none 0 0] M R := by
  refine does_below (.tuple #[]) ⟨_, Try.func120, by kernel_rfl, by kernel_rfl⟩ (fun w hw => ?_) h
  refine (Try.slices_Sort_int_none none 0 w).mono fun e w' ⟨h1, h2⟩ => ⟨h1, by rw [h2]; exact Below.refl _ _⟩
theorem sortS0_does (M : Mem) (R : Value → Mem → Prop) (h : R (.tuple #[]) M) : Does Try.prog 216 [.slice none 0 0] M R := by
  refine does_below (.tuple #[]) ⟨_, Try.func216, by kernel_rfl, by kernel_rfl⟩ (fun w hw => ?_) h
  refine (Try.slices_Sort_string_none none 0 w).mono fun e w' ⟨h1, h2⟩ => ⟨h1, by rw [h2]; exact Below.refl _ _⟩
theorem compactS0_does (M : Mem) (R : Value → Mem → Prop) (h : R (.slice none 0 0) M) : Does Try.prog 217 [.slice none 0 0] M R := by
  refine does_below (.slice none 0 0) ⟨_, Try.func217, by kernel_rfl, by kernel_rfl⟩ (fun w hw => ?_) h
  refine (Try.slices_Compact_string_empty none 0 w).mono fun e w' ⟨h1, h2⟩ => ⟨h1, by rw [h2]; exact Below.refl _ _⟩
theorem sorted0_does (M : Mem) (R : Value → Mem → Prop) (h : R (.slice none 0 0) M) : Does Try.prog 186 [.slice none 0 0] M R := by
  refine does_fn tab_ok Try.func186 rfl (by kernel_rfl) (by kernel_rfl) Try.ntmps186 Try.results186 rfl ?_
  simp (disch := omega)
  refine sortS0_does _ _ ?_
  simp (disch := omega)
  refine compactS0_does _ _ ?_
  simp (disch := omega)
  exact ret_of h
theorem factors0_does (w : List UInt8) (m : Nat) (M : Mem) (R : Value → Mem → Prop) (hl : w.length ≤ 60) (hm : w.length < m) (hm2 : m ≤ 1000)
    (h : R (.slice none 0 0) M) : Does Try.prog 118 [str w, .int .i64 m] M R := by
  refine does_fn tab_ok Try.func118 rfl (by kernel_rfl) (by kernel_rfl) Try.ntmps118 Try.results118 rfl ?_
  simp (disch := omega)
  refine loop_to tab_ok [5, 6, 7, 8, 9, 10, 11, 12, 13, 14, 15, 16, 17, 18, 19, 20, 21, 22, 23] (fun x : Nat => [(6, .int .i64 0), (5, .slice none 0 0)]) (fun x M' => M = M') (fun x => 0) 0 (by kernel_rfl) (by simp (disch := omega)) rfl ?_
  rintro i M' g rfl
  simp (disch := omega)
  refine sorted0_does _ _ ?_
  simp (disch := omega)
  exact ret_of h
theorem sumOf_does (u : List UInt8) (M : Mem) (R : Value → Mem → Prop) (hl : u.length ≤ 60) (hw : u.all isL = true) (h : ∀ M', Sub M M' → R (.int .i64 (numW u : Nat)) M') : Does Try.prog 119 [str u] M R := by
  refine does_fn tab_ok Try.func119 rfl (by kernel_rfl) (by kernel_rfl) Try.ntmps119 Try.results119 rfl ?_
  simp (disch := omega)
  intro b2 c hb2 hc
  have hs : Sub M (M.put b2 (.cells true (bytesV u) c)) := (Sub.refl _).put hb2 _
  simp (disch := omega)
  refine loop_to tab_ok [3, 5, 9, 10, 11, 12, 13, 14, 15, 16, 17] (fun i : Nat => [(9, .int .i64 i), (3, .int .i64 (numW (u.take i) : Nat))]) (fun i M' => M.put b2 (.cells true (bytesV u) c) = M' ∧ i ≤ u.length) (fun i => u.length - i) 0 (by kernel_rfl) (by simp (disch := omega) [numW]) ⟨rfl, by omega⟩ ?_
  rintro i M' g ⟨rfl, hi⟩
  by_cases hlt : i < u.length
  · have hx : u[i]? = some u[i] := List.getElem?_eq_getElem hlt
    have hu := u[i].toNat_lt
    have hr := isL_range (List.all_eq_true.1 hw _ (List.getElem_mem hlt))
    have hn : numW (u.take i) ≤ 4 * (u.take i).length := numW_le (by
      rw [List.all_eq_true] at hw ⊢
      exact fun x hx => hw x (List.mem_of_mem_take hx))
    have htl : (u.take i).length ≤ u.length := by rw [List.length_take]; omega
    have hs2 : numW (u.take (i + 1)) = numW (u.take i) + (u[i].toNat - 97) := by rw [take_snoc u hlt, numW_snoc]
    simp (disch := omega) [hx]
    refine number_does _ _ _ ?_
    generalize u[i] = y at *
    simp (disch := omega)
    refine Rnd.mk' (i + 1) (by omega) (by (repeat (first | exact km | refine kp rfl ?_ | refine km' rfl ?_))) (by simp (disch := omega); omega) ⟨rfl, by omega⟩
  · have hi' : i = u.length := by omega
    subst hi'
    simp (disch := omega)
    exact ret_of (by simpa using h _ hs)
end Go.Proofs.Ytbefijbmgmbphaa

/- Contracts: words compared, words of letters. -/
import Derived.Test.YtbefijbmgmbphaaGreatC64
namespace Go.Proofs.YtbefijbmgmbphaaGreat
open Go Go.RowKit
set_option linter.unusedSimpArgs false
set_option linter.unusedVariables false

theorem cmp_less : ∀ a b : List UInt8, Lib.compareBytes a b = if Op.bytesLess a b then -1 else if a == b then 0 else 1
  | [], [] => rfl
  | [], _ :: _ => rfl
  | _ :: _, [] => rfl
  | a :: x, b :: y => by
    have ih := cmp_less x y
    have e1 : Op.bytesLess (a :: x) (b :: y) = (decide (a < b) || (a == b && Op.bytesLess x y)) := rfl
    have e2 : (a :: x == b :: y) = (a == b && x == y) := rfl
    have e3 : Lib.compareBytes (a :: x) (b :: y) = if a < b then -1 else if b < a then 1 else Lib.compareBytes x y := rfl
    rw [e1, e2, e3]
    by_cases h1 : a < b
    · rw [if_pos h1, decide_eq_true h1]; rfl
    · rw [if_neg h1, decide_eq_false h1, Bool.false_or]
      by_cases h2 : b < a
      · have hne : (a == b) = false := by
          rw [beq_eq_false_iff_ne]; rintro rfl; exact h1 h2
        rw [if_pos h2, hne]; rfl
      · have he : a = b := by
          apply UInt8.toNat_inj.1
          rw [UInt8.lt_iff_toNat_lt] at h1 h2
          omega
        rw [if_neg h2, he, beq_self_eq_true, Bool.true_and, Bool.true_and]
        exact ih
theorem sCmp_does (w u : List UInt8) (M : Mem) (R : Value → Mem → Prop) (h : R (.int .i64 (Lib.compareBytes w u)) M) : Does Tryz.prog 69 [str w, str u] M R := by
  refine does_below (.int .i64 (Lib.compareBytes w u)) ⟨_, Tryz.func69, by kernel_rfl, by kernel_rfl⟩ (fun x hx => ?_) h
  exact (Tryz.strings_Compare ⟨⟨w⟩⟩ ⟨⟨u⟩⟩ x).mono fun e w' ⟨h1, h2⟩ => ⟨h1, by rw [h2]; exact Below.refl _ _⟩
theorem impl_CompareWords (w u : List UInt8) (M : Mem) (R : Value → Mem → Prop) (hw : w.length ≤ 1099511627776) (hu : u.length ≤ 1099511627776) (h : ∀ M', Sub M M' → R (tup2 (.int .i64 (cmpT w u)) (twoC w u)) M') : Does Tryz.prog 27 [str w, str u] M R := by
  unfold tup2 cmpT at h
  refine does_fn tab_ok Tryz.func27 rfl (by kernel_rfl) (by kernel_rfl) Tryz.ntmps27 Tryz.results27 rfl ?_
  simp (disch := omega)
  intro b1 hb1
  simp (disch := omega)
  have hs1 : Sub M (M.put b1 (.cells true [str w, str u] 2)) := (Sub.refl _).put hb1 _
  refine wordCode_does _ _ [w, u] true (fun _ => True) _ _ (Rd.new rfl (Nat.le_refl 2)) (fine2w hw hu) (by simp) trivial stab_true (always_tells _) ?_
  rw [codeOf2]
  unfold twoC at *
  cases hb : isWord w && isWord u
  · rw [hb] at h
    simp (disch := omega)
    exact ret_of (h _ hs1)
  · rw [hb, if_pos rfl, if_pos rfl] at h
    simp (disch := omega)
    refine sCmp_does w u _ _ ?_
    simp (disch := omega)
    exact ret_of (h _ hs1)
theorem spec_CompareWords (w u : List UInt8) (M : Mem) (R : Value → Mem → Prop) (hw : w.length ≤ 1099511627776) (hu : u.length ≤ 1099511627776) (h : R (tup2 (.int .i64 (cmpT w u)) (twoC w u)) M) : Does Tryz.prog 28 [str w, str u] M R := by
  unfold tup2 cmpT twoC at h
  refine does_fn tab_ok Tryz.func28 rfl (by kernel_rfl) (by kernel_rfl) Tryz.ntmps28 Tryz.results28 rfl ?_
  simp (disch := omega)
  refine l01Is_does w _ _ hw ?_
  cases h1 : isWord w
  · rw [h1] at h
    simp (disch := omega)
    exact ret_of h
  · rw [h1, Bool.true_and] at h
    simp (disch := omega)
    refine l01Is_does u _ _ hu ?_
    cases h2 : isWord u
    · rw [h2] at h
      simp (disch := omega)
      exact ret_of h
    · rw [h2, if_pos rfl, if_pos rfl, cmp_less] at h
      cases hl : Op.bytesLess w u
      · rw [hl] at h
        cases he : (w == u)
        · rw [he] at h
          simp (disch := omega) [hl, he]
          exact ret_of h
        · rw [he] at h
          simp (disch := omega) [hl, he]
          exact ret_of h
      · rw [hl] at h
        simp (disch := omega) [hl]
        exact ret_of h
theorem wordOf_does (v : Value) (p : List Int) (M : Mem) (R : Value → Mem → Prop) (hv : Rd M v (ints p)) (hn : p.length ≤ 60) (hp : p.all inL = true) (h : R (str (p.map fun z => ltr z.toNat)) M) : Does Tryz.prog 47 [v] M R := by
  refine does_fn tab_ok Tryz.func47 rfl (by kernel_rfl) (by kernel_rfl) Tryz.ntmps47 Tryz.results47 rfl ?_
  obtain ⟨a, c, rfl, ha⟩ := hv.opened
  rw [ints_length] at ha ⊢
  simp (disch := omega)
  refine loop_to tab_ok [3, 5, 8, 9, 10, 11, 12, 13, 14, 15, 16] (fun i : Nat => [(8, .int .i64 i), (3, str ((p.take i).map fun z => ltr z.toNat))]) (fun i M' => M = M' ∧ i ≤ p.length) (fun i => p.length - i) 0 (by kernel_rfl) (by simp (disch := omega)) ⟨rfl, by omega⟩ ?_
  rintro i M' g ⟨rfl, hi⟩
  by_cases hlt : i < p.length
  · rcases ha with h0 | ⟨b, o, rfl, ha⟩
    · omega
    have hg := ha i hlt
    rw [ints_get, List.getElem?_eq_getElem hlt] at hg
    have hin : inL p[i] = true := List.all_eq_true.1 hp _ (List.getElem_mem hlt)
    unfold inL at hin
    have hin := of_decide_eq_true hin
    have htk := take_snoc p hlt
    have hlen : ((p.take i).map fun z => ltr z.toNat).length = i := by rw [List.length_map, List.length_take]; omega
    generalize p[i] = z at *
    obtain ⟨z, rfl⟩ : ∃ n : Nat, z = n := ⟨z.toNat, by omega⟩
    have hsn : ((p.take (i + 1)).map fun z => ltr z.toNat) = ((p.take i).map fun z => ltr z.toNat) ++ [ltr z] := by rw [htk, List.map_append]; rfl
    generalize hX : ((p.take i).map fun z => ltr z.toNat) = X at *
    simp (disch := omega) [hg]
    refine letterN_does z _ _ (by omega) ?_
    generalize hu : ltr z = u at *
    have hsn2 : (p.map fun z => ltr z.toNat).take (i + 1) = X ++ [u] := by rw [← List.map_take]; exact hsn
    simp (disch := omega)
    refine Rnd.mk' (i + 1) (by omega) (by (repeat (first | exact km | refine kp rfl ?_ | refine km' rfl ?_))) (by simp (disch := omega) [hsn2]) ⟨rfl, by omega⟩
  · have hi' : i = p.length := by omega
    subst hi'
    rw [List.take_length]
    simp (disch := omega)
    exact ret_of h
theorem impl_WordOfLetters (v : Value) (p : List Int) (M : Mem) (R : Value → Mem → Prop) (hv : Rd M v (ints p)) (hn : p.length ≤ 1099511627776) (h : ∀ M', Sub M M' → R (tup2 (str (wolT p)) (wolC p)) M') : Does Tryz.prog 12 [v] M R := by
  unfold tup2 wolT wolC at h
  refine does_fn tab_ok Tryz.func12 rfl (by kernel_rfl) (by kernel_rfl) Tryz.ntmps12 Tryz.results12 rfl ?_
  obtain ⟨a, c, rfl, ha⟩ := hv.opened
  rw [ints_length] at ha hv ⊢
  by_cases h6 : p.length ≤ 60
  · rw [decide_eq_true h6, Bool.true_and] at h
    have h6' : ¬ (60 : Int) < p.length := by omega
    simp (disch := omega) [h6']
    refine areAllI_does _ _ (ints p) (onI inL) (fun _ => True) _ _ hv trivial stab_true (isLetter_tells p _) rfl (by rw [ints_length]; omega) ?_
    rw [all_ints]
    cases hq : p.all inL
    · rw [hq] at h
      simp (disch := omega)
      exact ret_of (h _ (Sub.refl _))
    · rw [hq, if_pos rfl, if_pos rfl] at h
      simp (disch := omega)
      refine wordOf_does _ p _ _ hv h6 hq ?_
      simp (disch := omega)
      exact ret_of (h _ (Sub.refl _))
  · rw [decide_eq_false h6, Bool.false_and] at h
    have h6' : (60 : Int) < p.length := by omega
    simp (disch := omega) [h6']
    exact ret_of (h _ (Sub.refl _))
theorem spec_WordOfLetters (v : Value) (p : List Int) (M : Mem) (R : Value → Mem → Prop) (hv : Rd M v (ints p)) (hn : p.length ≤ 1099511627776) (h : ∀ M', Sub M M' → R (tup2 (str (wolT p)) (wolC p)) M') : Does Tryz.prog 32 [v] M R := by
  unfold tup2 wolT wolC at h
  refine does_fn tab_ok Tryz.func32 rfl (by kernel_rfl) (by kernel_rfl) Tryz.ntmps32 Tryz.results32 rfl ?_
  obtain ⟨a, c, rfl, ha⟩ := hv.opened
  rw [ints_length] at ha hv ⊢
  by_cases h6 : p.length ≤ 60
  · rw [decide_eq_true h6, Bool.true_and] at h
    have h6' : ¬ (60 : Int) < p.length := by omega
    simp (disch := omega) [h6']
    refine l01Letters_does _ p _ _ hv (by omega) ?_
    cases hq : p.all inL
    · rw [hq] at h
      simp (disch := omega)
      exact ret_of (h _ (Sub.refl _))
    · rw [hq, if_pos rfl, if_pos rfl] at h
      simp (disch := omega)
      refine loop_to tab_ok [4, 5, 14, 15, 16, 17, 18, 19, 20, 21, 22, 23, 24, 25, 26] (fun i : Nat => [(5, .int .i64 i), (4, str ((p.take i).map fun z => ltr z.toNat))]) (fun i M' => Sub M M' ∧ i ≤ p.length) (fun i => p.length - i) 0 (by kernel_rfl) (by simp (disch := omega)) ⟨Sub.refl M, by omega⟩ ?_
      rintro i M' g ⟨hs, hi⟩
      by_cases hlt : i < p.length
      · rcases ha with h0 | ⟨b, o, rfl, ha⟩
        · omega
        have hg := ha i hlt
        rw [ints_get, List.getElem?_eq_getElem hlt] at hg
        have hg := get_keep hg hs
        have hin : inL p[i] = true := List.all_eq_true.1 hq _ (List.getElem_mem hlt)
        unfold inL at hin
        have hin := of_decide_eq_true hin
        have htk := take_snoc p hlt
        have hlen : ((p.take i).map fun z => ltr z.toNat).length = i := by rw [List.length_map, List.length_take]; omega
        generalize p[i] = z at *
        obtain ⟨z, rfl⟩ : ∃ n : Nat, z = n := ⟨z.toNat, by omega⟩
        have hsn : ((p.take (i + 1)).map fun z => ltr z.toNat) = ((p.take i).map fun z => ltr z.toNat) ++ [ltr z] := by rw [htk, List.map_append]; rfl
        generalize hX : ((p.take i).map fun z => ltr z.toNat) = X at *
        simp (disch := omega) [hg]
        refine l01Letter_does z _ _ (by omega) ?_
        generalize hu : ltr z = u at *
        have hsn2 : (p.map fun z => ltr z.toNat).take (i + 1) = X ++ [u] := by rw [← List.map_take]; exact hsn
        simp (disch := omega)
        refine Rnd.mk' (i + 1) (by omega) (by (repeat (first | exact km | refine kp rfl ?_ | refine km' rfl ?_))) (by simp (disch := omega) [hsn2]) ⟨hs, by omega⟩
      · have hi' : i = p.length := by omega
        subst hi'
        rw [List.take_length]
        simp (disch := omega)
        exact ret_of (h _ hs)
  · rw [decide_eq_false h6, Bool.false_and] at h
    have h6' : (60 : Int) < p.length := by omega
    simp (disch := omega) [h6']
    exact ret_of (h _ (Sub.refl _))
end Go.Proofs.YtbefijbmgmbphaaGreat

/- Contracts: reversed words, periods, powers, roots, palindromes, closures, of the program. -/
import Derived.Test.YthpcojnpiggaiaaGreatC26
import Derived.Test.YthpcojnpiggaiaaGreatC43
import Derived.Test.YthpcojnpiggaiaaGreatE11
import Derived.Test.YthpcojnpiggaiaaGreatM12
namespace Go.Proofs.YthpcojnpiggaiaaGreat
open Go Go.RowKit
set_option linter.unusedSimpArgs false
set_option linter.unusedVariables false

/-- Where i letters from each end have changed places. -/
def swapN (l : List UInt8) (i : Nat) : List UInt8 := (List.range l.length).map fun j => if j < i ∨ l.length - i ≤ j then l.getD (l.length - 1 - j) 0 else l.getD j 0
theorem swapN_len (l : List UInt8) (i : Nat) : (swapN l i).length = l.length := by simp [swapN]
theorem swapN_get (l : List UInt8) (i : Nat) {j : Nat} (hj : j < l.length) : (swapN l i)[j]? = some (if j < i ∨ l.length - i ≤ j then l.getD (l.length - 1 - j) 0 else l.getD j 0) := by
  unfold swapN
  rw [List.getElem?_map, List.getElem?_range hj]; rfl
theorem swapN_zero (l : List UInt8) : swapN l 0 = l := by
  apply List.ext_getElem?
  intro j
  by_cases hj : j < l.length
  · rw [swapN_get l 0 hj, if_neg (by omega), List.getD_eq_getElem?_getD, List.getElem?_eq_getElem hj]; rfl
  · rw [List.getElem?_eq_none (by rw [swapN_len]; omega), List.getElem?_eq_none (by omega)]
theorem swapN_end {l : List UInt8} {i : Nat} (h : l.length ≤ 2 * i + 1) : swapN l i = l.reverse := by
  apply List.ext_getElem?
  intro j
  by_cases hj : j < l.length
  · rw [swapN_get l i hj, List.getElem?_reverse hj]
    have hk : l.length - 1 - j < l.length := by omega
    rw [List.getElem?_eq_getElem hk]
    by_cases hc : j < i ∨ l.length - i ≤ j
    · rw [if_pos hc, List.getD_eq_getElem?_getD, List.getElem?_eq_getElem hk]; rfl
    · rw [if_neg hc, List.getD_eq_getElem?_getD, List.getElem?_eq_getElem hj]
      have e : l.length - 1 - j = j := by omega
      simp only [e, Option.getD_some]
  · rw [List.getElem?_eq_none (by rw [swapN_len]; omega), List.getElem?_eq_none (by rw [List.length_reverse]; omega)]
theorem swapN_step {l : List UInt8} {i : Nat} (h : 2 * i + 1 < l.length) : ((swapN l i).set i (l.getD (l.length - 1 - i) 0)).set (l.length - 1 - i) (l.getD i 0) = swapN l (i + 1) := by
  apply List.ext_getElem?
  intro j
  by_cases hj : j < l.length
  · rw [List.getElem?_set, List.getElem?_set, swapN_get l i hj, swapN_get l (i + 1) hj]
    have hlen := swapN_len l i
    by_cases e1 : l.length - 1 - i = j
    · rw [if_pos e1, if_pos (by rw [List.length_set]; omega), if_pos (by omega)]
      congr 2
      omega
    · rw [if_neg e1]
      by_cases e2 : i = j
      · rw [if_pos e2, if_pos (by omega), if_pos (by omega), e2]
      · rw [if_neg e2]
        congr 1
        by_cases hc : j < i ∨ l.length - i ≤ j
        · rw [if_pos hc, if_pos (by omega)]
        · rw [if_neg hc, if_neg (by omega)]
  · rw [List.getElem?_eq_none (by rw [List.length_set, List.length_set, swapN_len]; omega), List.getElem?_eq_none (by rw [swapN_len]; omega)]
theorem bytesV_at {l : List UInt8} {j : Nat} (hj : j < l.length) : (bytesV l)[j]? = some (.int .u8 (l.getD j 0).toNat) := by
  unfold bytesV
  rw [List.getElem?_map, List.getElem?_eq_getElem hj, List.getD_eq_getElem?_getD, List.getElem?_eq_getElem hj]; rfl
theorem bytesV_set (l : List UInt8) (j : Nat) (u : UInt8) : (bytesV l).set j (.int .u8 u.toNat) = bytesV (l.set j u) := by simp [bytesV, List.map_set]
theorem periods_does (w : List UInt8) (M : Mem) (R : Value → Mem → Prop) (hl : w.length ≤ 60) (h : ∀ v M', Own M v (ints (perL w)) M' → R v M') : Does Tryz.prog 92 [str w] M R := by
  refine does_fn tab_ok Tryz.func92 rfl (by kernel_rfl) (by kernel_rfl) Tryz.ntmps92 Tryz.results92 rfl ?_
  simp (disch := omega)
  refine loop_to tab_ok [3, 4, 5, 6, 7, 8, 9, 10, 11, 12, 13, 14, 15, 16, 17] (fun x : Nat × Value => [(4, .int .i64 ((x.1 : Int) + 1)), (3, x.2)]) (fun x M' => x.1 ≤ w.length ∧ Own M x.2 (ints (perTo w x.1)) M') (fun x => w.length - x.1) (0, .slice none 0 0) (by kernel_rfl) (by simp (disch := omega)) ⟨by omega, Own.nil M⟩ ?_
  rintro ⟨i, v⟩ M' g ⟨hi, ho⟩
  simp only at hi ho
  have hpl := perTo_len w i
  by_cases hlt : i < w.length
  · have hs := perTo_succ w i
    simp (disch := omega)
    refine hasPeriod_does w (i + 1) _ (by omega) _ _ hl (by omega) ?_
    generalize perTo w i = L at *
    cases hp : hp w (i + 1)
    · rw [hp, if_neg (by decide), List.append_nil] at hs
      simp (disch := omega)
      refine Rnd.mk' (i + 1, v) (by simp only; omega) (by (repeat (first | exact km | refine kp rfl ?_ | refine km' rfl ?_))) (by simp (disch := omega)) ⟨by simp only; omega, ?_⟩
      simp only
      rw [hs]; exact ho
    · rw [hp, if_pos rfl] at hs
      simp (disch := omega)
      intro b' hb'
      simp (disch := omega)
      refine app_own ho ((Sub.refl _).put hb' _) (by simp (disch := omega); rfl) rfl rfl (by omega) (by simp (disch := omega)) (by simp (disch := omega); omega) ?_
      intro v' M'' N'' ho' hs'
      simp (disch := omega)
      refine Rnd.mk'' M'' (i + 1, v') hs' (by simp only; omega) (by (repeat (first | exact km | refine kp rfl ?_ | refine km' rfl ?_))) (by simp (disch := omega)) ⟨by simp only; omega, ?_⟩
      simp only
      rw [hs, ← ints_snoc]
      exact ho'
  · have hi' : i = w.length := by omega
    subst hi'
    simp (disch := omega)
    exact ret_of (h v M' ho)
theorem impl_PeriodsOf (w : List UInt8) (M : Mem) (R : Value → Mem → Prop) (hl : w.length ≤ 1099511627776) (h : Lst (wcode w) (ints (if isWord w then perL w else [])) M R) : Does Tryz.prog 41 [str w] M R := by
  refine does_fn tab_ok Tryz.func41 rfl (by kernel_rfl) (by kernel_rfl) Tryz.ntmps41 Tryz.results41 rfl ?_
  simp (disch := omega)
  intro b1 hb1
  simp (disch := omega)
  have hs1 : Sub M (M.put b1 (.cells true [str w] 1)) := (Sub.refl _).put hb1 _
  refine wordCode_does _ _ [w] true (fun _ => True) _ _ (Rd.new rfl (Nat.le_refl 1)) (fine1 hl) (by simp) trivial stab_true (always_tells _) ?_
  rw [codeOf1]
  unfold wcode at h
  cases hw : isWord w
  · rw [hw] at h
    simp (disch := omega)
    exact ret_sub hs1 (h _ _ (Own.nil M))
  · rw [hw, if_pos rfl, if_pos rfl] at h
    have h60 := isWord_len hw
    simp (disch := omega)
    refine periods_does w _ _ h60 ?_
    intro v M1 o1
    obtain ⟨M2, o2, s2⟩ := o1.base hs1
    simp (disch := omega)
    exact ret_sub s2 (h _ _ o2)
end Go.Proofs.YthpcojnpiggaiaaGreat

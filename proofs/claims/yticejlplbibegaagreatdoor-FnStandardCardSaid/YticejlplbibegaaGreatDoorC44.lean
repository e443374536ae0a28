/- Contracts: reversed words, periods, powers, roots, palindromes, closures, of the program. -/
import Derived.Test.YticejlplbibegaaGreatDoorC26
import Derived.Test.YticejlplbibegaaGreatDoorC43
import Derived.Test.YticejlplbibegaaGreatDoorE11
import Derived.Test.YticejlplbibegaaGreatDoorM12
namespace Go.Proofs.YticejlplbibegaaGreatDoor
open Go Go.RowKit
set_option linter.unusedSimpArgs false
set_option linter.unusedVariables false

/-- Where i letters from each end have changed places. -/
def swapN (l : List UInt8) (i : Nat) : List UInt8 := (List.range l.length).map fun j => if j < i ∨ l.length - i ≤ j then l.getD (l.length - 1 - j) 0 else l.getD j 0
theorem swapN_len (l : List UInt8) (i : Nat) : (swapN l i).length = l.length := by simp [swapN]
theorem swapN_get (l : List UInt8) (i : Nat) {j : Nat} (hj : j < l.length) : (swapN l i)[j]? = some (if j < i ∨ l.length - i ≤ j then l.getD (l.length - 1 - j) 0 else l.getD j 0) := by
  unfold swapN
  rw [List.getElem?_map, List.getElem?_range hj]; rfl
theorem swapN_zero (l : List UInt8) : swapN l 0 = l := by
  apply List.ext_getElem?
  intro j
  by_cases hj : j < l.length
  · rw [swapN_get l 0 hj, if_neg (by omega), List.getD_eq_getElem?_getD, List.getElem?_eq_getElem hj]; rfl
  · rw [List.getElem?_eq_none (by rw [swapN_len]; omega), List.getElem?_eq_none (by omega)]
theorem swapN_end {l : List UInt8} {i : Nat} (h : l.length ≤ 2 * i + 1) : swapN l i = l.reverse := by
  apply List.ext_getElem?
  intro j
  by_cases hj : j < l.length
  · rw [swapN_get l i hj, List.getElem?_reverse hj]
    have hk : l.length - 1 - j < l.length := by omega
    rw [List.getElem?_eq_getElem hk]
    by_cases hc : j < i ∨ l.length - i ≤ j
    · rw [if_pos hc, List.getD_eq_getElem?_getD, List.getElem?_eq_getElem hk]; rfl
    · rw [if_neg hc, List.getD_eq_getElem?_getD, List.getElem?_eq_getElem hj]
      have e : l.length - 1 - j = j := by omega
      simp only [e, Option.getD_some]
  · rw [List.getElem?_eq_none (by rw [swapN_len]; omega), List.getElem?_eq_none (by rw [List.length_reverse]; omega)]
theorem swapN_step {l : List UInt8} {i : Nat} (h : 2 * i + 1 < l.length) : ((swapN l i).set i (l.getD (l.length - 1 - i) 0)).set (l.length - 1 - i) (l.getD i 0) = swapN l (i + 1) := by
  apply List.ext_getElem?
  intro j
  by_cases hj : j < l.length
  · rw [List.getElem?_set, List.getElem?_set, swapN_get l i hj, swapN_get l (i + 1) hj]
    have hlen := swapN_len l i
    by_cases e1 : l.length - 1 - i = j
    · rw [if_pos e1, if_pos (by rw [List.length_set]; omega), if_pos (by omega)]
      congr 2
      omega
    · rw [if_neg e1]
      by_cases e2 : i = j
      · rw [if_pos e2, if_pos (by omega), if_pos (by omega), e2]
      · rw [if_neg e2]
        congr 1
        by_cases hc : j < i ∨ l.length - i ≤ j
        · rw [if_pos hc, if_pos (by omega)]
        · rw [if_neg hc, if_neg (by omega)]
  · rw [List.getElem?_eq_none (by rw [List.length_set, List.length_set, swapN_len]; omega), List.getElem?_eq_none (by rw [swapN_len]; omega)]
theorem bytesV_at {l : List UInt8} {j : Nat} (hj : j < l.length) : (bytesV l)[j]? = some (.int .u8 (l.getD j 0).toNat) := by
  unfold bytesV
  rw [List.getElem?_map, List.getElem?_eq_getElem hj, List.getD_eq_getElem?_getD, List.getElem?_eq_getElem hj]; rfl
theorem bytesV_set (l : List UInt8) (j : Nat) (u : UInt8) : (bytesV l).set j (.int .u8 u.toNat) = bytesV (l.set j u) := by simp [bytesV, List.map_set]
theorem reverseB_does (b c : Nat) (l : List UInt8) (M : Mem) (R : Value → Mem → Prop) (hM : M b = some (.cells true (bytesV l) c)) (hl : l.length ≤ 1000000) (h : R (.tuple #[]) (M.put b (.cells true (bytesV l.reverse) c))) : Does Tryz.prog 166 [.slice (some ⟨b, 0, none⟩) l.length c] M R := by
  refine does_fn tab_ok Tryz.func166 rfl (by kernel_rfl) (by kernel_rfl) Tryz.ntmps166 Tryz.results166 rfl ?_
  simp (disch := omega)
  refine loop_to tab_ok [2, 3, 7, 8, 9, 10, 11, 12, 13, 14, 15, 16, 17, 18, 19, 20, 21, 22, 23, 24, 25, 26, 27] (fun i : Nat => [(2, .int .i64 i), (3, .int .i64 ((l.length : Int) - 1 - i))]) (fun i M' => 2 * i ≤ l.length + 1 ∧ M' = M.put b (.cells true (bytesV (swapN l i)) c)) (fun i => l.length + 1 - i) 0 (by kernel_rfl) (by simp (disch := omega)) ⟨by omega, ?_⟩ ?_
  · rw [swapN_zero]
    funext i
    by_cases e : i = b
    · subst e; rw [put_same, hM]
    · rw [put_ne _ _ e]
  rintro i M' g ⟨hi, rfl⟩
  have hk : (M.put b (.cells true (bytesV (swapN l i)) c)) b = some (.cells true (bytesV (swapN l i)) c) := put_same _ _ _
  by_cases hlt : 2 * i + 1 < l.length
  · have hc : (i : Int) < (l.length : Int) - 1 - i := by omega
    obtain ⟨q, hq⟩ : ∃ q : Nat, q = l.length - 1 - i := ⟨_, rfl⟩
    have hqi : (l.length : Int) - 1 - i = q := by omega
    have hst := swapN_step hlt
    rw [← hq] at hst
    have h1 := bytesV_at (l := swapN l i) (j := i) (by rw [swapN_len]; omega)
    have h2 := bytesV_at (l := swapN l i) (j := q) (by rw [swapN_len]; omega)
    have e1 : (swapN l i).getD i 0 = l.getD i 0 := by
      rw [List.getD_eq_getElem?_getD, swapN_get l i (by omega), if_neg (by omega)]; rfl
    have e2 : (swapN l i).getD q 0 = l.getD q 0 := by
      rw [List.getD_eq_getElem?_getD, swapN_get l i (by omega), if_neg (by omega)]; rfl
    rw [e1] at h1
    rw [e2] at h2
    have hsl := swapN_len l i
    rw [hqi]
    generalize l.getD i 0 = u at *
    generalize l.getD q 0 = w at *
    have hnx : (l.length : Int) - 1 - ((i : Int) + 1) = (q : Int) - 1 := by omega
    rw [hqi] at hc
    simp (disch := omega) [hc]
    refine plays (lights [0, 1, 2, 3, 4, 5, 6, 7, 8, 9, 10, 11, 12] (.one 13 2 (lights [14] (.one 15 2 .fin)))) tab_ok (by kernel_rfl) (by kernel_rfl) (by rfl) ?_
    simp (disch := omega) [get_of hk, hk, h1, h2, set_is, bytesV_set, bytesV_length]
    exact Rnd.mk' (i + 1) (by omega) (by (repeat (first | exact km | refine kp rfl ?_ | refine km' rfl ?_))) (by simp (disch := omega); omega) ⟨by omega, by simp only [put_put, hst]⟩
  · have hc : ¬ (i : Int) < (l.length : Int) - 1 - i := by omega
    rw [swapN_end (by omega)]
    simp (disch := omega) [hc]
    exact ret_of h
theorem reversed_does (l : List UInt8) (M : Mem) (R : Value → Mem → Prop) (hl : l.length ≤ 1000000) (h : R (str l.reverse) M) : Does Tryz.prog 141 [str l] M R := by
  refine does_fn tab_ok Tryz.func141 rfl (by kernel_rfl) (by kernel_rfl) Tryz.ntmps141 Tryz.results141 rfl ?_
  simp (disch := omega)
  intro b c hb hc
  rw [bytesV_length] at hc
  simp (disch := omega)
  refine reverseB_does b c l _ _ (put_same _ _ _) hl ?_
  rw [put_put]
  have hk : (M.put b (.cells true (bytesV l.reverse) c)) b = some (.cells true (bytesV l.reverse) c) := put_same _ _ _
  have ht : (bytesV l.reverse).take l.length = bytesV l.reverse := List.take_of_length_le (by rw [bytesV_length, List.length_reverse]; omega)
  simp (disch := omega) [sub_of hk, ht]
  exact ret_sub ((Sub.refl M).put hb _) h
theorem isPal_does (l : List UInt8) (M : Mem) (R : Value → Mem → Prop) (hl : l.length ≤ 1000000) (h : R (.bool (palB l)) M) : Does Tryz.prog 98 [str l] M R := by
  unfold palB at h
  refine does_fn tab_ok Tryz.func98 rfl (by kernel_rfl) (by kernel_rfl) Tryz.ntmps98 Tryz.results98 rfl ?_
  simp (disch := omega)
  refine reversed_does l _ _ hl ?_
  simp (disch := omega)
  exact ret_of h
theorem repeat_does (w : List UInt8) (k : Nat) (M : Mem) (R : Value → Mem → Prop) (hl : w.length ≤ 60) (hk : k ≤ 1000) (h : R (str (repF w k)) M) : Does Tryz.prog 103 [str w, .int .i64 k] M R := by
  have e : Lib.repeatL w k = repF w k := by
    unfold repF
    clear h hk
    induction k with
    | zero => rfl
    | succ k ih => rw [Lib.repeatL, ih, List.replicate_succ, List.flatten_cons]
  refine does_below (str (repF w k)) ⟨_, Tryz.func103, by kernel_rfl, by kernel_rfl⟩ (fun W hW => ?_) h
  rw [← e]
  refine Tryz.strings_Repeat ⟨⟨w⟩⟩ k W (by omega) ?_
  have hs : (⟨⟨w⟩⟩ : ByteArray).size = w.length := rfl
  rw [hs]
  have : w.length * k ≤ 60 * 1000 := Nat.mul_le_mul hl hk
  omega
theorem impl_IsPalindrome (w : List UInt8) (M : Mem) (R : Value → Mem → Prop) (hl : w.length ≤ 1099511627776) (h : ∀ M', Sub M M' → R (tup2 (.bool (isWord w && palB w)) (wcode w)) M') : Does Tryz.prog 39 [str w] M R := by
  refine does_fn tab_ok Tryz.func39 rfl (by kernel_rfl) (by kernel_rfl) Tryz.ntmps39 Tryz.results39 rfl ?_
  simp (disch := omega)
  intro b1 hb1
  simp (disch := omega)
  have hs1 : Sub M (M.put b1 (.cells true [str w] 1)) := (Sub.refl _).put hb1 _
  refine wordCode_does _ _ [w] true (fun _ => True) _ _ (Rd.new rfl (Nat.le_refl 1)) (fine1 hl) (by simp) trivial stab_true (always_tells _) ?_
  rw [codeOf1]
  unfold tup2 wcode at h
  cases hw : isWord w
  · rw [hw] at h
    simp (disch := omega)
    exact ret_of (h _ hs1)
  · rw [hw] at h
    have h60 := isWord_len hw
    simp (disch := omega)
    refine isPal_does w _ _ (by omega) ?_
    simp (disch := omega)
    exact ret_of (h _ hs1)
end Go.Proofs.YticejlplbibegaaGreatDoor

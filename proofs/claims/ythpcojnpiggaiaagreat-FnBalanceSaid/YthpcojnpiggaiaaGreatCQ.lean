/- Merged: C112 C113 M33. -/
import Derived.Test.YthpcojnpiggaiaaGreatC111
import Derived.Test.YthpcojnpiggaiaaGreatC46
/-! Contracts: sorted words, of both. -/
namespace Go.Proofs.YthpcojnpiggaiaaGreat
open Go
set_option linter.unusedSimpArgs false
set_option linter.unusedVariables false

/-- The word of the first letters of a vector, in order. -/
def vW (ns : List Nat) : Nat → List UInt8
  | 0 => []
  | k + 1 => vW ns k ++ List.replicate (ns.getD k 0) (ltr k)
theorem sub_getk {M N : Mem} {b i : Nat} {v : Value} (h : M.get? b i = some v) (hs : Sub M N) : N.get? b i = some v := by
  obtain ⟨B, hB⟩ := get_told h
  unfold Mem.get? at h ⊢
  rw [hs _ _ hB]
  rw [hB] at h
  exact h
def i64s (ns : List Nat) : List Int := ns.map fun n : Nat => (n : Int)
theorem vW_len (ns : List Nat) (hb : ∀ i, ns.getD i 0 ≤ 60) : ∀ k, (vW ns k).length ≤ k * 60
  | 0 => Nat.zero_le _
  | k + 1 => by
    have := vW_len ns hb k
    have := hb k
    rw [vW, List.length_append, List.length_replicate]; omega
theorem l07Sorted_does (v : Value) (ns : List Nat) (M : Mem) (R : Value → Mem → Prop) (h5 : ns.length = 5) (hb : ∀ i, ns.getD i 0 ≤ 60) (hv : Rd M v (ints (i64s ns))) (h : ∀ M', Sub M M' → R (str (vW ns 5)) M') : Does Tryz.prog 82 [v] M R := by
  obtain ⟨a, c, rfl, ha⟩ := hv.opened
  have hl : (ints (i64s ns)).length = 5 := by rw [ints_length]; unfold i64s; rw [List.length_map]; exact h5
  rw [hl] at ha ⊢
  rcases ha with h0 | ⟨b, o, rfl, ha⟩
  · omega
  have hat : ∀ i, i < 5 → M.get? b (o + i) = some (.int .i64 ((ns.getD i 0 : Nat) : Int)) := fun i hi => by
    rw [ha i hi, ints_get]
    unfold i64s
    rw [List.getElem?_map, List.getElem?_eq_getElem (by omega), List.getD_eq_getElem?_getD, List.getElem?_eq_getElem (by omega)]; rfl
  refine does_fn tab_ok Tryz.func82 rfl (by kernel_rfl) (by kernel_rfl) Tryz.ntmps82 Tryz.results82 rfl ?_
  simp (disch := omega)
  refine loop_to tab_ok [3, 4, 5, 6, 7, 8, 9, 10, 11, 12, 13, 14, 15, 16, 17, 18, 19, 20, 21] (fun i : Nat => [(4, .int .i64 i), (3, str (vW ns i))]) (fun i N => Sub M N ∧ i ≤ 5) (fun i => 5 - i) 0 (by kernel_rfl) (by simp (disch := omega) [vW]) ⟨Sub.refl M, by omega⟩ ?_
  rintro i N g ⟨sN, hi⟩
  have hln := vW_len ns hb i
  by_cases hlt : i < 5
  · have hg := sub_getk (hat i hlt) sN
    have hbi := hb i
    have hst : vW ns (i + 1) = vW ns i ++ List.replicate (ns.getD i 0) (ltr i) := rfl
    generalize ns.getD i 0 = n at *
    generalize hW : vW ns i = W at *
    simp (disch := omega) [hg]
    refine loop_to tab_ok [3, 5, 14, 15, 16, 17, 18, 19, 20, 21] (fun k : Nat => [(5, .int .i64 ((n : Int) - k)), (3, str (W ++ List.replicate k (ltr i)))]) (fun k N => Sub M N ∧ k ≤ n) (fun k => n - k) 0 (by kernel_rfl) (by simp (disch := omega)) ⟨sN, by omega⟩ ?_
    rintro k N2 g2 ⟨sN2, hk⟩
    by_cases hkn : k < n
    · have hpos : (0 : Int) < (n : Int) - k := by omega
      have e1 : (n : Int) - ((k : Int) + 1) = (n : Int) - k - 1 := by omega
      have hrs : List.replicate (k + 1) (ltr i) = List.replicate k (ltr i) ++ [ltr i] := List.replicate_succ'
      have hlr : (List.replicate k (ltr i)).length = k := List.length_replicate
      generalize List.replicate k (ltr i) = X at *
      simp (disch := omega) [hpos]
      refine letterA_does i _ _ (by omega) ?_
      intro N3 s3
      simp (disch := omega)
      refine Rnd.mk' (k + 1) (by omega) (by (repeat (first | exact km | refine kp rfl ?_ | refine km' rfl ?_))) (by simp (disch := omega) [hrs, e1]) ⟨sN2.trans s3, by omega⟩
    · have hkE : k = n := by omega
      subst hkE
      have hpos : ¬ (0 : Int) < (k : Int) - k := by omega
      rw [← hst]
      simp (disch := omega) [hpos]
      refine Rnd.mk' (i + 1) (by omega) (by (repeat (first | exact km | refine kp rfl ?_ | refine km' rfl ?_))) (by simp (disch := omega)) ⟨sN2, by omega⟩
  · have hi' : i = 5 := by omega
    subst hi'
    simp (disch := omega)
    exact ret_of (h N sN)
end Go.Proofs.YthpcojnpiggaiaaGreat
/-! Contracts: SortedWord, of both. -/
namespace Go.Proofs.YthpcojnpiggaiaaGreat
open Go
set_option linter.unusedSimpArgs false
set_option linter.unusedVariables false

def cN (w : List UInt8) : List Nat := [0, 1, 2, 3, 4].map fun k => w.countP fun u => u.toNat == 97 + k
theorem counts_cN (w : List UInt8) : counts w = i64s (cN w) := rfl
theorem cN_at (w : List UInt8) {k : Nat} (h : k < 5) : (cN w).getD k 0 = w.countP fun u => u.toNat == 97 + k := by
  rcases k with _ | _ | _ | _ | _ | k
  · rfl
  · rfl
  · rfl
  · rfl
  · rfl
  · omega
theorem cN_le {w : List UInt8} (h : w.length ≤ 60) (i : Nat) : (cN w).getD i 0 ≤ 60 := by
  by_cases hi : i < 5
  · rw [cN_at w hi]
    exact Nat.le_trans List.countP_le_length h
  · rw [List.getD_eq_getElem?_getD, List.getElem?_eq_none (by show 5 ≤ i; omega)]
    exact Nat.zero_le _
theorem ltr_num {k : Nat} (h : k ≤ 100) : (ltr k).toNat = 97 + k := by
  unfold ltr
  rw [UInt8.toNat_ofNat']
  omega
theorem vW_in (ns : List Nat) : ∀ k, ∀ u ∈ vW ns k, ∃ i, i < k ∧ u = ltr i
  | 0, u, h => by cases h
  | k + 1, u, h => by
    rcases List.mem_append.1 h with h | h
    · obtain ⟨i, h1, h2⟩ := vW_in ns k u h
      exact ⟨i, by omega, h2⟩
    · exact ⟨k, by omega, (List.mem_replicate.1 h).2⟩
theorem vW_sorted (ns : List Nat) : ∀ k, k ≤ 5 → (vW ns k).Pairwise fun x y => x.toNat ≤ y.toNat
  | 0, _ => List.Pairwise.nil
  | k + 1, hk => by
    refine List.pairwise_append.2 ⟨vW_sorted ns k (by omega), ?_, fun x hx y hy => ?_⟩
    · exact List.pairwise_replicate.2 (.inr (Nat.le_refl _))
    · obtain ⟨i, h1, rfl⟩ := vW_in ns k x hx
      rw [(List.mem_replicate.1 hy).2, ltr_num (by omega), ltr_num (by omega)]
      omega
theorem vW_count (ns : List Nat) (j : Nat) (hj : j ≤ 5) : ∀ k, k ≤ 5 → (vW ns k).count (ltr j) = if j < k then ns.getD j 0 else 0
  | 0, _ => by simp [vW]
  | k + 1, hk => by
    rw [vW, List.count_append, vW_count ns j hj k (by omega), List.count_replicate]
    by_cases e : k = j
    · subst e
      simp
    · have hne : (ltr k == ltr j) = false := beq_eq_false_iff_ne.2 fun h => e (by
        have := congrArg UInt8.toNat h
        rw [ltr_num (by omega), ltr_num (by omega)] at this
        omega)
      rw [hne]
      by_cases h1 : j < k
      · rw [if_pos h1, if_pos (show j < k + 1 by omega)]; simp
      · rw [if_neg h1, if_neg (show ¬ j < k + 1 by omega)]; simp
theorem srt_vW {w : List UInt8} (hw : w.all isL = true) : vW (cN w) 5 = srtL w := by
  have hp : (vW (cN w) 5).Perm w := by
    rw [List.perm_iff_count]
    intro u
    by_cases hu : 97 ≤ u.toNat ∧ u.toNat < 102
    · obtain ⟨j, hj, rfl⟩ : ∃ j, j < 5 ∧ u = ltr j := ⟨u.toNat - 97, by omega, UInt8.toNat_inj.1 (by rw [ltr_num (by omega)]; omega)⟩
      rw [vW_count _ j (by omega) 5 (Nat.le_refl 5), if_pos hj, cN_at w hj]
      unfold List.count
      refine List.countP_congr fun x _ => ?_
      rw [beq_iff_eq, beq_iff_eq, ← UInt8.toNat_inj, ltr_num (by omega)]
    · rw [List.count_eq_zero.2, List.count_eq_zero.2]
      · intro h
        have := isL_range (List.all_eq_true.1 hw u h)
        omega
      · intro h
        obtain ⟨i, h1, rfl⟩ := vW_in _ 5 u h
        rw [ltr_num (by omega)] at hu
        omega
  refine sorted_same (vW_sorted _ 5 (Nat.le_refl 5)) ?_ (hp.trans (List.mergeSort_perm w _).symm)
  have := List.pairwise_mergeSort (le := fun x y : UInt8 => decide (x.toNat ≤ y.toNat)) (fun a b c h1 h2 => by
    simp only [decide_eq_true_eq] at *; omega) (fun a b => by
    simp only [Bool.or_eq_true, decide_eq_true_eq]; omega) w
  exact this.imp fun h => by simpa using h
theorem impl_SortedWord (w : List UInt8) (M : Mem) (R : Value → Mem → Prop) (hl : w.length ≤ 1099511627776) (h : ∀ M', Sub M M' → R (tup2 (str (if isWord w then srtL w else [])) (wcode w)) M') : Does Tryz.prog 9 [str w] M R := by
  refine does_fn tab_ok Tryz.func9 rfl (by kernel_rfl) (by kernel_rfl) Tryz.ntmps9 Tryz.results9 rfl ?_
  simp (disch := omega)
  intro b1 hb1
  simp (disch := omega)
  have hs1 : Sub M (M.put b1 (.cells true [str w] 1)) := (Sub.refl _).put hb1 _
  refine wordCode_does _ _ [w] true (fun _ => True) _ _ (Rd.new rfl (Nat.le_refl 1)) (fine1 hl) (by simp) trivial stab_true (always_tells _) ?_
  rw [codeOf1]
  unfold tup2 wcode at h
  cases hw : isWord w
  · rw [hw] at h
    simp (disch := omega)
    exact ret_of (h _ hs1)
  · rw [hw] at h
    have h60 := isWord_len hw
    simp (disch := omega)
    refine sortedWord_does w _ _ (by omega) ?_
    intro M2 s2
    simp (disch := omega)
    exact ret_of (h _ (hs1.trans s2))
theorem spec_SortedWord (w : List UInt8) (M : Mem) (R : Value → Mem → Prop) (hl : w.length ≤ 1099511627776) (h : ∀ M', Sub M M' → R (tup2 (str (if isWord w then srtL w else [])) (wcode w)) M') : Does Tryz.prog 28 [str w] M R := by
  refine does_fn tab_ok Tryz.func28 rfl (by kernel_rfl) (by kernel_rfl) Tryz.ntmps28 Tryz.results28 rfl ?_
  simp (disch := omega)
  refine l01Is_does w _ _ hl ?_
  unfold tup2 wcode at h
  cases hw : isWord w
  · rw [hw] at h
    simp (disch := omega)
    exact ret_of (h _ (Sub.refl _))
  · rw [hw] at h
    have h60 := isWord_len hw
    simp (disch := omega)
    refine l01Count_does w _ _ hl (isWord_all hw) ?_
    intro v M1 o1
    simp (disch := omega)
    have r1 := o1.rd
    rw [counts_cN] at r1
    refine l07Sorted_does v (cN w) _ _ rfl (cN_le h60) r1 ?_
    rw [srt_vW (isWord_all hw)]
    intro M2 s2
    simp (disch := omega)
    exact ret_of (h _ (o1.sub.trans s2))
end Go.Proofs.YthpcojnpiggaiaaGreat
/-! Plain law: sorted words are alike. -/
namespace Go.Proofs.YthpcojnpiggaiaaGreat
set_option linter.unusedVariables false

theorem srtL_perm (w : List UInt8) : (srtL w).Perm w := List.mergeSort_perm w _
theorem srtL_pair (w : List UInt8) : (srtL w).Pairwise fun x y => x.toNat ≤ y.toNat := by
  have := List.pairwise_mergeSort (le := fun x y : UInt8 => decide (x.toNat ≤ y.toNat)) (fun a b c h1 h2 => by
    simp only [decide_eq_true_eq] at *; omega) (fun a b => by
    simp only [Bool.or_eq_true, decide_eq_true_eq]; omega) w
  exact this.imp fun h => by simpa using h
theorem srtL_self {w : List UInt8} (h : w.Pairwise fun x y => x.toNat ≤ y.toNat) : srtL w = w := sorted_same (srtL_pair w) h (srtL_perm w)
theorem cnt_srt (w : List UInt8) (k : Nat) : cnt (srtL w) k = cnt w k := by
  unfold cnt
  rw [(srtL_perm w).countP_eq]
theorem counts_srt (w : List UInt8) : counts (srtL w) = counts w := by
  unfold counts
  simp only [cnt_srt]
theorem isWord_srt {w : List UInt8} (h : isWord w = true) : isWord (srtL w) = true := by
  have h1 := isWord_len h
  have h2 := isWord_all h
  unfold isWord
  rw [srtL_len, decide_eq_true h1, Bool.true_and, List.all_eq_true]
  intro u hu
  exact List.all_eq_true.1 h2 u ((srtL_perm w).mem_iff.1 hu)
theorem alike_srt {w u : List UInt8} (hw : w.all isL = true) (hu : u.all isL = true) : (counts w == counts u) = (srtL w == srtL u) := by
  rw [Bool.eq_iff_iff, beq_iff_eq, beq_iff_eq]
  constructor
  · intro h
    rw [← srt_vW hw, ← srt_vW hu]
    have hc : cN w = cN u := by
      rw [counts_cN, counts_cN] at h
      unfold i64s at h
      exact (List.map_inj_right (fun a b h => Int.ofNat.inj h)).1 h
    rw [hc]
  · intro h
    rw [← counts_srt w, h, counts_srt u]
end Go.Proofs.YthpcojnpiggaiaaGreat

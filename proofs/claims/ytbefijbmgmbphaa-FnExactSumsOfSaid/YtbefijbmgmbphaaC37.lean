/- Contracts: sums of factors, of the reference. -/
import Derived.Test.YtbefijbmgmbphaaM9
import Derived.Test.YtbefijbmgmbphaaC8
namespace Go.Proofs.Ytbefijbmgmbphaa
open Go
set_option linter.unusedSimpArgs false
set_option linter.unusedVariables false

theorem seg0 (w : List UInt8) (i : Nat) : numW (seg w i 0) = 0 := by
  unfold seg
  rw [List.drop_of_length_le (by rw [List.length_take]; omega)]; rfl
theorem segS_snoc {w : List UInt8} {i j : Nat} (h : i + j < w.length) : seg w i (j + 1) = seg w i j ++ [w[i + j]] := by
  unfold seg
  rw [show i + (j + 1) = i + j + 1 by omega, take_snoc w h, List.drop_append_of_le_length (by rw [List.length_take]; omega)]
theorem spec_SumsOf (w : List UInt8) (m : Int) (M : Mem) (R : Value → Mem → Prop) (hl : w.length ≤ 1099511627776) (h : Lst (sumsC w m) (ints (sumsR w m)) M R) : Does Try.prog 44 [str w, .int .i64 m] M R := by
  unfold sumsC sumsR at h
  refine does_fn tab_ok Try.func44 rfl (by kernel_rfl) (by kernel_rfl) Try.ntmps44 Try.results44 rfl ?_
  simp (disch := omega)
  refine l01Is_does w _ _ hl ?_
  cases hw : isWord w
  · rw [hw] at h
    simp (disch := omega)
    exact ret_of (h _ _ (Own.nil M))
  · have h60 := isWord_len hw
    have hall := isWord_all hw
    rw [hw, if_pos rfl, if_pos rfl] at h
    simp (disch := omega)
    refine l01In_does m 0 60 _ _ ?_
    by_cases h1 : 0 ≤ m ∧ m ≤ 60
    · rw [if_pos h1, if_pos h1] at h
      rw [decide_eq_true h1]
      obtain ⟨m, rfl⟩ : ∃ n : Nat, m = n := ⟨m.toNat, by omega⟩
      rw [Int.toNat_natCast] at h
      have er : (300 : Int).toNat = 300 := rfl
      simp (disch := omega) [er, metB_nil]
      intro b1 hb1
      simp (disch := omega) [er, metB_nil]
      intro b2 hb2
      rw [put_none] at hb2
      have h12 : b1 ≠ b2 := Ne.symm hb2.1
      have ml := metB_length
      simp (disch := omega) [er, metB_nil, ml]
      refine loop_to tab_ok [8, 9, 10, 22, 23, 24, 25, 26, 27, 28, 29, 30, 31, 32, 33, 34, 35, 36, 37, 38, 39, 40, 41, 42, 43, 44, 45] (fun i : Nat => [(8, .int .i64 i)]) (fun i M' => (M.put b1 (.cells true (metB (segsA w m i)) 300)).put b2 (.cells true [] 0) = M' ∧ i ≤ w.length + 1 - m) (fun i => w.length + 1 - m - i) 0 (by kernel_rfl) (by simp (disch := omega)) ⟨rfl, by omega⟩ ?_
      rintro i M' g ⟨rfl, hi⟩
      by_cases hlt : i < w.length + 1 - m
      · have hle : (i : Int) + m ≤ w.length := by omega
        simp (disch := omega)
        refine loop_to tab_ok [9, 10, 31, 32, 33, 34, 35, 36, 37, 38, 39, 40, 41, 42] (fun q : Nat => [(10, .int .i64 q), (9, .int .i64 (numW (seg w i (q - i)) : Nat))]) (fun q M' => (M.put b1 (.cells true (metB (segsA w m i)) 300)).put b2 (.cells true [] 0) = M' ∧ i ≤ q ∧ q ≤ i + m) (fun q => i + m - q) i (by kernel_rfl) (by simp (disch := omega) [seg0]) ⟨rfl, by omega, by omega⟩ ?_
        rintro q M' g1 ⟨rfl, hq1, hq⟩
        have hsl := seg_len (w := w) (a := i) (m := q - i) (by omega)
        have hn := numW_le (seg_all hall i (q - i))
        by_cases hlt2 : q < i + m
        · have hq2 : (q : Int) < i + m := by omega
          have hx : w[q]? = some w[q] := List.getElem?_eq_getElem (by omega)
          have hu := isL_range (List.all_eq_true.1 hall _ (List.getElem_mem (show q < w.length by omega)))
          have e1 : q + 1 - i = q - i + 1 := by omega
          have hsn : numW (seg w i (q + 1 - i)) = numW (seg w i (q - i)) + (w[q].toNat - 97) := by
            rw [e1, segS_snoc (by omega), numW_snoc]
            simp only [show i + (q - i) = q by omega]
          generalize w[q] = u at *
          simp (disch := omega) [hq2]
          refine l01At_does w q u _ _ (by omega) hx ?_
          simp (disch := omega)
          refine Rnd.mk' (q + 1) (by omega) (by (repeat (first | exact km | refine kp rfl ?_ | refine km' rfl ?_))) (by simp (disch := omega); omega) ⟨rfl, by omega, by omega⟩
        · have hq' : q = i + m := by omega
          subst hq'
          have hq2 : ¬ ((i + m : Nat) : Int) < i + m := by omega
          rw [show i + m - i = m by omega] at hn hsl
          have hz : numW (seg w i m) < 300 := by omega
          have hst := metB_set (segsA w m i) (seg w i m) hz
          rw [← segsA_succ] at hst
          have hl300 := ml (segsA w m i)
          have hl301 := ml (segsA w m (i + 1))
          rw [show i + m - i = m by omega]
          obtain ⟨Q, hQ⟩ : ∃ Q, Q = i + m := ⟨_, rfl⟩
          rw [← hQ] at hq2 ⊢
          generalize numW (seg w i m) = z at *
          generalize metB (segsA w m i) = B at *
          generalize hB2 : metB (segsA w m (i + 1)) = B' at *
          simp (disch := omega) [hq2, h12, Ne.symm h12, hst]
          refine Rnd.mk' (i + 1) (by omega) (by (repeat (first | exact km | refine kp rfl ?_ | refine km' rfl ?_))) (by simp (disch := omega)) ⟨by rw [hB2], by omega⟩
      · have hi' : i = w.length + 1 - m := by omega
        rw [← hi'] at h
        have hgt : ¬ (i : Int) + m ≤ w.length := by omega
        generalize segsA w m i = L at *
        have k1 : (M.put b1 (.cells true (metB L) 300)) b1 = some (.cells true (metB L) 300) := put_same _ _ _
        have hM2 : (M.put b1 (.cells true (metB L) 300)) b2 = none := by rw [put_none]; exact hb2
        have sN : Sub M (M.put b1 (.cells true (metB L) 300)) := (Sub.refl M).put hb1 _
        have o0 : Own (M.put b1 (.cells true (metB L) 300)) (.slice (some ⟨b2, 0, none⟩) 0 0) [] ((M.put b1 (.cells true (metB L) 300)).put b2 (.cells true [] 0)) := Own.new hM2 rfl (Nat.le_refl 0)
        simp (disch := omega) [hgt]
        generalize M.put b1 (.cells true (metB L) 300) = N at *
        generalize N.put b2 (.cells true [] 0) = N1 at *
        generalize Value.slice (some ⟨b2, 0, none⟩) 0 0 = v0 at *
        refine loop_to tab_ok [7, 11, 46, 47, 48, 49, 50, 51, 52, 53, 54, 55, 56, 57, 58, 59] (fun x : Nat × Value => [(11, .int .i64 x.1), (7, x.2)]) (fun x M' => x.1 ≤ 300 ∧ Own N x.2 (ints (metL L x.1)) M') (fun x => 300 - x.1) (0, v0) (by kernel_rfl) (by simp (disch := omega)) ⟨by omega, o0⟩ ?_
        rintro ⟨s, v⟩ M' g2 ⟨hs, ho⟩
        simp only at hs ho
        by_cases hlt3 : s < 300
        · have k1' := ho.sub _ _ k1
          have hg : M'.get? b1 s = some (.bool (L.any fun u => numW u == s)) := by rw [get_of k1', metB_get _ hlt3]
          have hml := metL_len L s
          have hmm := metL_succ L s
          generalize (L.any fun u => numW u == s) = q at *
          simp (disch := omega) [hg]
          cases q
          · simp (disch := omega)
            refine Rnd.mk' (s + 1, v) (by simp only; omega) (by (repeat (first | exact km | refine kp rfl ?_ | refine km' rfl ?_))) (by simp (disch := omega)) ⟨by simp only; omega, ?_⟩
            simp only
            rw [hmm]
            simpa using ho
          · simp (disch := omega)
            intro b' hb'
            simp (disch := omega)
            refine app_own ho ((Sub.refl _).put hb' _) (by simp (disch := omega); rfl) rfl rfl (by omega) (by simp (disch := omega)) (by simp (disch := omega); omega) ?_
            intro v' M'' N'' ho' hs'
            simp (disch := omega)
            refine Rnd.mk'' M'' (s + 1, v') hs' (by simp only; omega) (by (repeat (first | exact km | refine kp rfl ?_ | refine km' rfl ?_))) (by simp (disch := omega)) ⟨by simp only; omega, ?_⟩
            simp only
            rw [hmm, if_pos rfl, ← ints_append]
            exact ho'
        · have hs' : s = 300 := by omega
          subst hs'
          simp (disch := omega)
          obtain ⟨M2, o2, z2⟩ := ho.base sN
          exact ret_sub z2 (h v M2 o2)
    · rw [if_neg h1, if_neg h1] at h
      rw [decide_eq_false h1]
      simp (disch := omega)
      exact ret_of (h _ _ (Own.nil M))
end Go.Proofs.Ytbefijbmgmbphaa

/- Contracts: common beginnings and ends, turned words, of both. -/
import Derived.Test.YtbefijbmgmbphaaGreatC62
import Derived.Test.YtbefijbmgmbphaaGreatC44
namespace Go.Proofs.YtbefijbmgmbphaaGreat
open Go
set_option linter.unusedSimpArgs false
set_option linter.unusedVariables false

def cbgT (w u : List UInt8) : List UInt8 := if isWord w && isWord u then w.take (cmn w u) else []
def cendN (w u : List UInt8) : Nat := cmn w.reverse u.reverse
def cendT (w u : List UInt8) : List UInt8 := if isWord w && isWord u then w.drop (w.length - cendN w u) else []
theorem cend_rev (w u : List UInt8) : (w.reverse.take (cendN w u)).reverse = w.drop (w.length - cendN w u) := by
  rw [List.reverse_take, List.reverse_reverse, List.length_reverse]
theorem l01Common_does (w u : List UInt8) (M : Mem) (R : Value → Mem → Prop) (hw : w.length ≤ 1099511627776) (hu : u.length ≤ 1099511627776) (h : R (.int .i64 (cmn w u : Nat)) M) : Does Tryz.prog 70 [str w, str u] M R := by
  refine does_fn tab_ok Tryz.func70 rfl (by kernel_rfl) (by kernel_rfl) Tryz.ntmps70 Tryz.results70 rfl ?_
  simp (disch := omega)
  refine loop_to tab_ok [5, 6, 7, 8, 9, 10, 11, 12, 13, 14, 15, 16, 17, 18, 19, 20, 21, 22, 23, 24, 25, 26] (fun i : Nat => [(5, .int .i64 i)]) (fun i M' => M = M' ∧ i ≤ w.length ∧ i ≤ u.length ∧ w.take i = u.take i) (fun i => w.length - i) 0 (by kernel_rfl) (by simp (disch := omega)) ⟨rfl, by omega, by omega, by simp⟩ ?_
  rintro i M' g ⟨rfl, hi1, hi2, he⟩
  simp (disch := omega)
  refine draw_to tab_ok (by kernel_rfl) (by kernel_rfl) (by rfl) ?_
  by_cases h1 : i < w.length
  · have g1 : (i : Int) < w.length := by omega
    by_cases h2 : i < u.length
    · have g2 : (i : Int) < u.length := by omega
      have hx : w[i]? = some w[i] := List.getElem?_eq_getElem h1
      have hy : u[i]? = some u[i] := List.getElem?_eq_getElem h2
      have ht1 := take_snoc w h1
      have ht2 := take_snoc u h2
      by_cases hq : w[i] = u[i]
      · rw [hq] at hx ht1
        generalize u[i] = y at *
        simp (disch := omega) [g1, g2, h1, h2, hx, hy, at_u8L hx, at_u8L hy]
        refine Rnd.mk' (i + 1) (by omega) (by (repeat (first | exact km | refine kp rfl ?_ | refine km' rfl ?_))) (by simp (disch := omega)) ⟨rfl, by omega, by omega, by rw [ht1, ht2, he]⟩
      · have hq2 : ¬ (w[i].toNat : Int) = u[i].toNat := fun e => hq (UInt8.toNat_inj.1 (by omega))
        have hq3 : ((w[i].toNat : Int) == (u[i].toNat : Int)) = false := beq_eq_false_iff_ne.2 hq2
        have hst := cmn_stop he hi1 hi2 (.inr ⟨_, _, hx, hy, hq⟩)
        generalize w[i] = x at *
        generalize u[i] = y at *
        rw [hst] at h
        simp (disch := omega) [g1, g2, h1, h2, hx, hy, at_u8L hx, at_u8L hy, hq, hq2, hq3]
        exact ret_of h
    · have hst := cmn_stop he hi1 hi2 (.inl (by omega))
      have g2 : ¬ (i : Int) < u.length := by omega
      rw [hst] at h
      simp (disch := omega) [g1, g2, h1, h2]
      exact ret_of h
  · have hst := cmn_stop he hi1 hi2 (.inl (by omega))
    have g1 : ¬ (i : Int) < w.length := by omega
    rw [hst] at h
    simp (disch := omega) [g1, h1]
    exact ret_of h
theorem impl_CommonBeginning (w u : List UInt8) (M : Mem) (R : Value → Mem → Prop) (hw : w.length ≤ 1099511627776) (hu : u.length ≤ 1099511627776) (h : ∀ M', Sub M M' → R (tup2 (str (cbgT w u)) (twoC w u)) M') : Does Tryz.prog 14 [str w, str u] M R := by
  unfold tup2 cbgT at h
  refine does_fn tab_ok Tryz.func14 rfl (by kernel_rfl) (by kernel_rfl) Tryz.ntmps14 Tryz.results14 rfl ?_
  simp (disch := omega)
  intro b1 hb1
  simp (disch := omega)
  have hs1 : Sub M (M.put b1 (.cells true [str w, str u] 2)) := (Sub.refl _).put hb1 _
  refine wordCode_does _ _ [w, u] true (fun _ => True) _ _ (Rd.new rfl (Nat.le_refl 2)) (fine2w hw hu) (by simp) trivial stab_true (always_tells _) ?_
  rw [codeOf2]
  unfold twoC at *
  cases hb : isWord w && isWord u
  · rw [hb] at h
    simp (disch := omega)
    exact ret_of (h _ hs1)
  · rw [hb, if_pos rfl, if_pos rfl] at h
    simp (disch := omega)
    refine common_does w u _ _ hw hu ?_
    simp (disch := omega)
    exact ret_of (h _ hs1)
theorem spec_CommonBeginning (w u : List UInt8) (M : Mem) (R : Value → Mem → Prop) (hw : w.length ≤ 1099511627776) (hu : u.length ≤ 1099511627776) (h : R (tup2 (str (cbgT w u)) (twoC w u)) M) : Does Tryz.prog 29 [str w, str u] M R := by
  unfold tup2 cbgT twoC at h
  refine does_fn tab_ok Tryz.func29 rfl (by kernel_rfl) (by kernel_rfl) Tryz.ntmps29 Tryz.results29 rfl ?_
  simp (disch := omega)
  refine l01Is_does w _ _ hw ?_
  cases h1 : isWord w
  · rw [h1] at h
    simp (disch := omega)
    exact ret_of h
  · rw [h1, Bool.true_and] at h
    simp (disch := omega)
    refine l01Is_does u _ _ hu ?_
    cases h2 : isWord u
    · rw [h2] at h
      simp (disch := omega)
      exact ret_of h
    · rw [h2, if_pos rfl, if_pos rfl] at h
      simp (disch := omega)
      refine l01Common_does w u _ _ hw hu ?_
      have hle := (cmn_le w u).1
      generalize cmn w u = n at *
      simp (disch := omega)
      exact ret_of h
theorem impl_CommonEnd (w u : List UInt8) (M : Mem) (R : Value → Mem → Prop) (hw : w.length ≤ 1099511627776) (hu : u.length ≤ 1099511627776) (h : ∀ M', Sub M M' → R (tup2 (str (cendT w u)) (twoC w u)) M') : Does Tryz.prog 15 [str w, str u] M R := by
  unfold tup2 cendT at h
  refine does_fn tab_ok Tryz.func15 rfl (by kernel_rfl) (by kernel_rfl) Tryz.ntmps15 Tryz.results15 rfl ?_
  simp (disch := omega)
  intro b1 hb1
  simp (disch := omega)
  have hs1 : Sub M (M.put b1 (.cells true [str w, str u] 2)) := (Sub.refl _).put hb1 _
  refine wordCode_does _ _ [w, u] true (fun _ => True) _ _ (Rd.new rfl (Nat.le_refl 2)) (fine2w hw hu) (by simp) trivial stab_true (always_tells _) ?_
  rw [codeOf2]
  unfold twoC at *
  cases hb : isWord w && isWord u
  · rw [hb] at h
    simp (disch := omega)
    exact ret_of (h _ hs1)
  · rw [hb, if_pos rfl, if_pos rfl] at h
    rw [Bool.and_eq_true] at hb
    have w60 := isWord_len hb.1
    have u60 := isWord_len hb.2
    rw [← cend_rev] at h
    simp (disch := omega)
    refine reversed_does w _ _ (by omega) ?_
    simp (disch := omega)
    refine reversed_does u _ _ (by omega) ?_
    simp (disch := omega)
    refine common_does w.reverse u.reverse _ _ (by rw [List.length_reverse]; omega) (by rw [List.length_reverse]; omega) ?_
    show _
    unfold cendN at h
    generalize hX : w.reverse.take (cmn w.reverse u.reverse) = X at *
    have hXl : X.length ≤ 60 := by rw [← hX, List.length_take, List.length_reverse]; omega
    simp (disch := omega)
    refine reversed_does X _ _ (by omega) ?_
    simp (disch := omega)
    exact ret_of (h _ hs1)
theorem l01Reversed_does (l : List UInt8) (M : Mem) (R : Value → Mem → Prop) (hl : l.length ≤ 1000000) (h : ∀ M', Sub M M' → R (str l.reverse) M') : Does Tryz.prog 71 [str l] M R := by
  refine does_fn tab_ok Tryz.func71 rfl (by kernel_rfl) (by kernel_rfl) Tryz.ntmps71 Tryz.results71 rfl ?_
  simp (disch := omega)
  intro b0 hb0
  have o0 : Own M (.slice (some ⟨b0, 0, none⟩) 0 0) (bytesV []) (M.put b0 (.cells true [] 0)) := Own.new hb0 rfl (Nat.le_refl 0)
  simp (disch := omega)
  generalize M.put b0 (.cells true [] 0) = N0 at *
  generalize Value.slice (some ⟨b0, 0, none⟩) 0 0 = v0 at *
  refine loop_to tab_ok [3, 4, 9, 10, 11, 12, 13, 14, 15, 16, 17, 18] (fun x : Nat × Value => [(4, .int .i64 ((l.length : Int) - 1 - x.1)), (3, x.2)]) (fun x M' => x.1 ≤ l.length ∧ Own M x.2 (bytesV (l.reverse.take x.1)) M') (fun x => l.length - x.1) (0, v0) (by kernel_rfl) (by simp (disch := omega)) ⟨by omega, by rw [List.take_zero]; exact o0⟩ ?_
  rintro ⟨j, v⟩ M' g ⟨hj, ho⟩
  simp only at hj ho
  by_cases hlt : j < l.length
  · have hlr : j < l.reverse.length := by rw [List.length_reverse]; exact hlt
    have htk := take_snoc l.reverse hlr
    have hge : (0 : Int) ≤ (l.length : Int) - 1 - j := by omega
    obtain ⟨q, hq⟩ : ∃ q : Nat, (l.length : Int) - 1 - j = q := ⟨l.length - 1 - j, by omega⟩
    have hx : l[q]? = some l.reverse[j] := by
      rw [List.getElem_reverse, List.getElem?_eq_getElem (by omega)]
      congr 1
      congr 1
      omega
    have hlen : (l.reverse.take j).length = j := by rw [List.length_take, List.length_reverse]; omega
    have hq0 : (0 : Int) ≤ q := by omega
    have hqn : (q : Int) - 1 = (l.length : Int) - 1 - ((j + 1 : Nat) : Int) := by omega
    generalize l.reverse[j] = y at *
    simp (disch := omega) [hq, hx, at_u8L hx]
    intro b' hb'
    simp (disch := omega)
    refine app_own ho ((Sub.refl _).put hb' _) (by simp (disch := omega); rfl) rfl rfl (by omega) (by simp (disch := omega)) (by simp (disch := omega); omega) ?_
    intro v' M'' N'' ho' hs'
    simp (disch := omega)
    refine Rnd.mk'' M'' (j + 1, v') hs' (by simp only; omega) (by (repeat (first | exact km | refine kp rfl ?_ | refine km' rfl ?_))) (by simp (disch := omega); omega) ⟨by simp only; omega, ?_⟩
    simp only
    rw [htk, ← bytes_snoc]
    exact ho'
  · have hj' : j = l.length := by omega
    subst hj'
    have hge : ¬ (0 : Int) ≤ (l.length : Int) - 1 - l.length := by omega
    rw [List.take_of_length_le (by rw [List.length_reverse]; exact Nat.le_refl _)] at ho
    have hs := ho.sub
    rcases ho with ⟨rfl, he, rfl⟩ | ⟨b2, c2, rfl, hM, hc, rfl⟩
    · have e0 : l.reverse = [] := by cases hr : l.reverse <;> simp [hr, bytesV] at he ⊢
      rw [e0] at h
      simp (disch := omega) [hge]
      exact ret_of (h _ (Sub.refl _))
    · have htk : List.take l.reverse.length (bytesV l.reverse) = bytesV l.reverse := List.take_of_length_le (by rw [bytesV_length]; exact Nat.le_refl _)
      have htk2 : List.take l.length (bytesV l.reverse) = bytesV l.reverse := List.take_of_length_le (by rw [bytesV_length, List.length_reverse]; exact Nat.le_refl _)
      simp (disch := omega) [hge, htk, htk2, decB_bytesV]
      exact ret_of (h _ hs)
end Go.Proofs.YtbefijbmgmbphaaGreat

/- Contracts: numbers of scattered words, of both. -/
import Derived.Test.YticejlplbibegaaGreatC81
import Derived.Test.YticejlplbibegaaGreatEB
namespace Go.Proofs.YticejlplbibegaaGreat
open Go Go.RowKit
set_option linter.unusedSimpArgs false
set_option linter.unusedVariables false

def scC (w u : List UInt8) : Int := if isWord w && isWord u then (if w.length ≤ 6 then 0 else 2) else 1
def scT (w u : List UInt8) : Int := if isWord w && isWord u then (if w.length ≤ 6 then (scN w u : Nat) else 0) else 0
theorem put_comm (M : Mem) {a b : Nat} (h : a ≠ b) (A B : Blk) : (M.put a A).put b B = (M.put b B).put a A := by
  funext i
  by_cases h1 : i = a
  · subst h1; rw [put_ne _ _ h, put_same, put_same]
  · by_cases h2 : i = b
    · subst h2; rw [put_same, put_ne _ _ h1, put_same]
    · rw [put_ne _ _ h2, put_ne _ _ h1, put_ne _ _ h1, put_ne _ _ h2]
theorem rep0_ints (n : Nat) : List.replicate n (Value.int .i64 0) = ints (List.replicate n 0) := by simp [ints]
theorem scV_le {w u : List UInt8} (hw : w.length ≤ 6) (hu : u.length ≤ 60) (i k : Nat) : ((scE w u i k : Nat) : Int) ≤ 51520374361 := by
  have := scE_small hw hu i k
  omega
theorem countSc_does (w u : List UInt8) (M : Mem) (R : Value → Mem → Prop) (hw : w.length ≤ 6) (hu : u.length ≤ 60) (h : ∀ M', Sub M M' → R (.int .i64 (scN w u : Nat)) M') : Does Tryz.prog 115 [str w, str u] M R := by
  refine does_fn tab_ok Tryz.func115 rfl (by kernel_rfl) (by kernel_rfl) Tryz.ntmps115 Tryz.results115 rfl ?_
  simp (disch := omega)
  intro b hb
  simp (disch := omega)
  have hs := fun X => (Sub.refl M).put hb (.cells true X (w.length + 1))
  have f0 := scV_first w u
  rw [rep0_ints, ints_set, f0]
  intro b2 c hb2 hc
  have hne : b2 ≠ b := by rintro rfl; rw [put_same] at hb2; cases hb2
  have hput : ∀ X, (M.put b (.cells true X (w.length + 1))).put b2 (.cells true (bytesV u) c) = (M.put b2 (.cells true (bytesV u) c)).put b (.cells true X (w.length + 1)) := fun X => put_comm _ (Ne.symm hne) _ _
  have hs2 : ∀ X, Sub M ((M.put b2 (.cells true (bytesV u) c)).put b (.cells true X (w.length + 1))) := fun X => by
    rw [← hput]
    refine (hs X).put ?_ _
    rw [put_ne _ _ hne] at hb2
    exact hb2
  rw [hput]
  have kB : ∀ X, ((M.put b2 (.cells true (bytesV u) c)).put b (.cells true X (w.length + 1))) b2 = some (.cells true (bytesV u) c) := fun X => by rw [put_ne _ _ hne]; exact put_same _ _ _
  have kA : ∀ X, ((M.put b2 (.cells true (bytesV u) c)).put b (.cells true X (w.length + 1))) b = some (.cells true X (w.length + 1)) := fun X => put_same _ _ _
  generalize M.put b2 (.cells true (bytesV u) c) = N at *
  simp (disch := omega)
  refine loop_to tab_ok [7, 8, 18, 19, 20, 21, 22, 23, 24, 25, 26, 27, 28, 29, 30, 31, 32, 33, 34, 35, 36, 37, 38, 39, 40, 41, 42, 43, 44, 45] (fun i : Nat => [(18, .int .i64 i)]) (fun i M' => N.put b (.cells true (ints (scV w u i w.length)) (w.length + 1)) = M' ∧ i ≤ u.length) (fun i => u.length - i) 0 (by kernel_rfl) (by simp (disch := omega)) ⟨rfl, by omega⟩ ?_
  rintro i M' g ⟨rfl, hi⟩
  by_cases hlt : i < u.length
  · have hx : u[i]? = some u[i] := List.getElem?_eq_getElem hlt
    have hgb := get_of (kB (ints (scV w u i w.length))) i
    rw [bytesV_get, hx, Option.map_some] at hgb
    simp (disch := omega) [hgb]
    refine loop_to tab_ok [8, 24, 25, 26, 27, 28, 29, 30, 31, 32, 33, 34, 35, 36, 37, 38, 39, 40, 41, 42, 43, 44] (fun k : Nat => [(8, .int .i64 k)]) (fun k M' => N.put b (.cells true (ints (scV w u i k)) (w.length + 1)) = M' ∧ k ≤ w.length) (fun k => k) w.length (by kernel_rfl) (by simp (disch := omega)) ⟨rfl, Nat.le_refl _⟩ ?_
    clear hgb
    rintro k M' g2 ⟨rfl, hk⟩
    by_cases hk0 : 0 < k
    · obtain ⟨q, rfl⟩ : ∃ q, k = q + 1 := ⟨k - 1, by omega⟩
      have hwx : w[q]? = some w[q] := List.getElem?_eq_getElem (by omega)
      have e1 : ((q + 1 : Nat) : Int) - 1 = q := by omega
      have hyes := scV_yes (w := w) (u := u) (i := i) (k := q) hlt (by omega)
      have hno := scV_no (w := w) (u := u) (i := i) (k := q) hlt (by omega)
      have g1 := get_of (kA (ints (scV w u i (q + 1)))) (q + 1)
      have g0 := get_of (kA (ints (scV w u i (q + 1)))) q
      rw [ints_get, scV_get _ _ _ _ (by omega), if_neg (by omega), Option.map_some] at g1 g0
      have hle1 := scV_le (w := w) (u := u) hw hu i (q + 1)
      have hle0 := scV_le (w := w) (u := u) hw hu i q
      have hwl := w[q].toNat_lt
      have hul := u[i].toNat_lt
      have k1 := kA (ints (scV w u i (q + 1)))
      generalize scE w u i (q + 1) = E1 at *
      generalize scE w u i q = E0 at *
      generalize w[q] = x at *
      generalize u[i] = y at *
      by_cases he : x = y
      · subst he
        have hyes := hyes rfl
        simp (disch := omega) [hwx, at_u81 hwx]
        refine plays (lights [0, 1, 2, 3, 4, 5, 6, 7, 8, 9, 10] (.one 11 2 .fin)) tab_ok (by kernel_rfl) (by kernel_rfl) (by rfl) ?_
        simp (disch := omega) [g1, g0, k1, set_is, ints_set, hyes, scV_len]
        refine Rnd.mk' q (by omega) (by (repeat (first | exact km | refine kp rfl ?_ | refine km' rfl ?_))) (by simp (disch := omega)) ⟨by rw [put_put], by omega⟩
      · have he' : ¬ (x.toNat : Int) = (y.toNat : Int) := fun e => he (UInt8.toNat_inj.1 (by omega))
        simp (disch := omega) [hwx, at_u81 hwx, he']
        refine Rnd.mk' q (by omega) (by (repeat (first | exact km | refine kp rfl ?_ | refine km' rfl ?_))) (by simp (disch := omega)) ⟨by rw [hno he], by omega⟩
    · have hk' : k = 0 := by omega
      subst hk'
      simp (disch := omega)
      refine Rnd.mk' (i + 1) (by omega) (by (repeat (first | exact km | refine kp rfl ?_ | refine km' rfl ?_))) (by simp (disch := omega)) ⟨by rw [scV_next], by omega⟩
  · have hi' : i = u.length := by omega
    subst hi'
    have g1 := get_of (kA (ints (scV w u u.length w.length))) w.length
    rw [ints_get, scV_get _ _ _ _ (Nat.le_refl _), if_neg (by omega), Option.map_some] at g1
    simp (disch := omega) [g1]
    exact ret_of (h _ (hs2 _))
theorem impl_CountScattered (w u : List UInt8) (M : Mem) (R : Value → Mem → Prop) (hw : w.length ≤ 1099511627776) (hu : u.length ≤ 1099511627776) (h : ∀ M', Sub M M' → R (tup2 (.int .i64 (scT w u)) (scC w u)) M') : Does Tryz.prog 37 [str w, str u] M R := by
  unfold tup2 scT scC at h
  refine does_fn tab_ok Tryz.func37 rfl (by kernel_rfl) (by kernel_rfl) Tryz.ntmps37 Tryz.results37 rfl ?_
  simp (disch := omega)
  intro b2 hb2
  simp (disch := omega)
  have s2 : Sub M (M.put b2 (.cells true [str w] 1)) := (Sub.refl M).put hb2 _
  have k2 := put_same M b2 (.cells true [str w] 1)
  generalize M.put b2 (.cells true [str w] 1) = N at *
  try simp (disch := omega) [get_of k2]
  intro b6 hb6
  simp (disch := omega)
  have s6 := (Sub.refl N).put hb6 (.cells true [str w, str u] 2)
  have g2 := get_of (s6 _ _ k2) 0
  refine wordCode_does _ _ [w, u] (decide (w.length ≤ 6)) (fun M' : Mem => M'.get? b2 0 = some (str w)) _ _ (Rd.new rfl (Nat.le_refl 2)) (fine2w hw hu) (by simp) g2 (stab_get _ _) ?_ ?_
  · intro K R' hG hR'
    simp (disch := omega)
    refine does_fn tab_ok Tryz.func114 rfl (by kernel_rfl) (by kernel_rfl) Tryz.ntmps114 Tryz.results114 rfl ?_
    simp (disch := omega) [hG]
    have e : decide ((w.length : Int) ≤ 6) = decide (w.length ≤ 6) := by
      by_cases hh : w.length ≤ 6
      · rw [decide_eq_true hh]; exact decide_eq_true (by omega)
      · rw [decide_eq_false hh]; exact decide_eq_false (by omega)
    try rw [e]
    exact ret_of (by simpa using hR')
  · have hss := s2.trans s6
    unfold codeOf
    rw [show ([w, u].all isWord) = (isWord w && isWord u) by simp]
    cases hb : isWord w && isWord u
    · rw [hb] at h
      simp (disch := omega)
      exact ret_of (h _ hss)
    · rw [hb, if_pos rfl, if_pos rfl] at h
      rw [Bool.and_eq_true] at hb
      have k2' := s6 _ _ k2
      generalize N.put b6 (.cells true [str w, str u] 2) = N6 at *
      by_cases hk : w.length ≤ 6
      · rw [if_pos hk, if_pos hk] at h
        rw [decide_eq_true hk]
        simp (disch := omega) [g2]
        refine countSc_does w u _ _ hk (isWord_len hb.2) ?_
        intro M' s
        simp (disch := omega)
        exact ret_of (h _ (hss.trans s))
      · rw [if_neg hk, if_neg hk] at h
        rw [decide_eq_false hk]
        simp (disch := omega)
        exact ret_of (h _ hss)
theorem spec_CountScattered (w u : List UInt8) (M : Mem) (R : Value → Mem → Prop) (hw : w.length ≤ 1099511627776) (hu : u.length ≤ 1099511627776) (h : ∀ M', Sub M M' → R (tup2 (.int .i64 (scT w u)) (scC w u)) M') : Does Tryz.prog 38 [str w, str u] M R := by
  unfold tup2 scT scC at h
  refine does_fn tab_ok Tryz.func38 rfl (by kernel_rfl) (by kernel_rfl) Tryz.ntmps38 Tryz.results38 rfl ?_
  simp (disch := omega)
  refine l01Is_does w _ _ hw ?_
  cases h1 : isWord w
  · rw [h1] at h
    simp (disch := omega)
    exact ret_of (h _ (Sub.refl _))
  · rw [h1, Bool.true_and] at h
    simp (disch := omega)
    refine l01Is_does u _ _ hu ?_
    cases h2 : isWord u
    · rw [h2] at h
      simp (disch := omega)
      exact ret_of (h _ (Sub.refl _))
    · rw [h2, if_pos rfl, if_pos rfl] at h
      have u60 := isWord_len h2
      by_cases hk : w.length ≤ 6
      · rw [if_pos hk, if_pos hk] at h
        have hk' : ¬ (6 : Int) < w.length := by omega
        simp (disch := omega) [hk']
        intro b hb
        simp (disch := omega)
        have hs := fun X => (Sub.refl M).put hb (.cells true X (w.length + 1))
        have f0 := scV_first w u
        rw [rep0_ints, ints_set, f0]
        try simp (disch := omega)
        have kA : ∀ X, (M.put b (.cells true X (w.length + 1))) b = some (.cells true X (w.length + 1)) := fun X => put_same _ _ _
        refine loop_to tab_ok [7, 8, 28, 29, 30, 31, 32, 33, 34, 35, 36, 37, 38, 39, 40, 41, 42, 43, 44, 45, 46, 47, 48, 49, 50, 51, 52, 53, 54, 55, 56, 57, 58, 59, 60] (fun i : Nat => [(7, .int .i64 i)]) (fun i M' => M.put b (.cells true (ints (scV w u i w.length)) (w.length + 1)) = M' ∧ i ≤ u.length) (fun i => u.length - i) 0 (by kernel_rfl) (by simp (disch := omega)) ⟨rfl, by omega⟩ ?_
        rintro i M' g ⟨rfl, hi⟩
        by_cases hlt : i < u.length
        · have hx : u[i]? = some u[i] := List.getElem?_eq_getElem hlt
          simp (disch := omega)
          refine loop_to tab_ok [8, 36, 37, 38, 39, 40, 41, 42, 43, 44, 45, 46, 47, 48, 49, 50, 51, 52, 53, 54, 55, 56, 57, 58, 59, 60] (fun k : Nat => [(8, .int .i64 k)]) (fun k M' => M.put b (.cells true (ints (scV w u i k)) (w.length + 1)) = M' ∧ k ≤ w.length) (fun k => k) w.length (by kernel_rfl) (by simp (disch := omega)) ⟨rfl, Nat.le_refl _⟩ ?_
          rintro k M' g2 ⟨rfl, hk⟩
          by_cases hk0 : 0 < k
          · obtain ⟨q, rfl⟩ : ∃ q, k = q + 1 := ⟨k - 1, by omega⟩
            have hwx : w[q]? = some w[q] := List.getElem?_eq_getElem (by omega)
            have e1 : ((q + 1 : Nat) : Int) - 1 = q := by omega
            have hyes := scV_yes (w := w) (u := u) (i := i) (k := q) hlt (by omega)
            have hno := scV_no (w := w) (u := u) (i := i) (k := q) hlt (by omega)
            have g1 := get_of (kA (ints (scV w u i (q + 1)))) (q + 1)
            have g0 := get_of (kA (ints (scV w u i (q + 1)))) q
            rw [ints_get, scV_get _ _ _ _ (by omega), if_neg (by omega), Option.map_some] at g1 g0
            have hle1 := scV_le (w := w) (u := u) (by omega) u60 i (q + 1)
            have hle0 := scV_le (w := w) (u := u) (by omega) u60 i q
            have hwl := w[q].toNat_lt
            have hul := u[i].toNat_lt
            have k1 := kA (ints (scV w u i (q + 1)))
            generalize scE w u i (q + 1) = E1 at *
            generalize scE w u i q = E0 at *
            generalize w[q] = x at *
            generalize u[i] = y at *
            simp (disch := omega)
            refine draw_to tab_ok (by kernel_rfl) (by kernel_rfl) (by rfl) ?_
            by_cases he : x = y
            · subst he
              have hyes := hyes rfl
              simp (disch := omega) [hwx, at_u81 hwx, hx, at_u81 hx]
              refine plays (lights [0, 1, 2, 3, 4, 5, 6, 7, 8, 9, 10, 11, 12] (.one 13 2 .fin)) tab_ok (by kernel_rfl) (by kernel_rfl) (by rfl) ?_
              simp (disch := omega) [g1, g0, k1, set_is, ints_set, hyes, scV_len]
              refine Rnd.mk' q (by omega) (by (repeat (first | exact km | refine kp rfl ?_ | refine km' rfl ?_))) (by simp (disch := omega)) ⟨by rw [put_put], by omega⟩
            · have he' : ¬ (x.toNat : Int) = (y.toNat : Int) := fun e => he (UInt8.toNat_inj.1 (by omega))
              simp (disch := omega) [hwx, at_u81 hwx, hx, at_u81 hx, he']
              refine Rnd.mk' q (by omega) (by (repeat (first | exact km | refine kp rfl ?_ | refine km' rfl ?_))) (by simp (disch := omega)) ⟨by rw [hno he], by omega⟩
          · have hk' : k = 0 := by omega
            subst hk'
            simp (disch := omega)
            refine Rnd.mk' (i + 1) (by omega) (by (repeat (first | exact km | refine kp rfl ?_ | refine km' rfl ?_))) (by simp (disch := omega)) ⟨by rw [scV_next], by omega⟩
        · have hi' : i = u.length := by omega
          subst hi'
          have g1 := get_of (kA (ints (scV w u u.length w.length))) w.length
          rw [ints_get, scV_get _ _ _ _ (Nat.le_refl _), if_neg (by omega), Option.map_some] at g1
          simp (disch := omega) [g1]
          exact ret_of (h _ (hs _))
      · rw [if_neg hk, if_neg hk] at h
        have hk' : (6 : Int) < w.length := by omega
        simp (disch := omega) [hk']
        exact ret_of (h _ (Sub.refl _))
end Go.Proofs.YticejlplbibegaaGreat

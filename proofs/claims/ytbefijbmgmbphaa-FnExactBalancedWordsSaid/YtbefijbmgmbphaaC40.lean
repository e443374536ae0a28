/- Contracts: balanced words of two letters. -/
import Derived.Test.YtbefijbmgmbphaaC38
import Derived.Test.YtbefijbmgmbphaaC39
import Derived.Test.YtbefijbmgmbphaaC33
namespace Go.Proofs.Ytbefijbmgmbphaa
open Go
set_option linter.unusedSimpArgs false
set_option linter.unusedVariables false

theorem balL_len (m : Nat) : (balL m).length ≤ 2 ^ m := by
  rw [balL_is, ← allW_len 2 m]
  exact List.length_filter_le _ _
theorem balL_word {m : Nat} {w : List UInt8} (h : w ∈ balL m) : w.length = m ∧ AB w := by
  rw [balL_is] at h
  have := (List.mem_filter.1 h).1
  exact ⟨allW_word 2 m w this, allW_ab m w this⟩
theorem pow2_le {m : Nat} (h : m ≤ 10) : 2 ^ m ≤ 1024 := Nat.pow_le_pow_right (by omega) h
def grB (out : List (List UInt8)) : List (List UInt8) := (growA out 2).filter balB2
theorem grB_snoc (out : List (List UInt8)) (w : List UInt8) : grB (out ++ [w]) = grB out ++ (grow1 w 2).filter balB2 := by
  unfold grB
  rw [growA_snoc, List.filter_append]
theorem grow1_in {w x : List UInt8} {c : Nat} (h : x ∈ grow1 w c) : x.length = w.length + 1 := by
  obtain ⟨y, _, rfl⟩ := List.mem_map.1 h
  simp
def inB (n : Int) : Bool := decide (0 ≤ n ∧ n ≤ 10)
def balR (n : Int) : List (List UInt8) := if inB n then balL n.toNat else []
def balC (n : Int) : Int := if inB n then 0 else 2
theorem spec_BalancedWords (n : Int) (M : Mem) (R : Value → Mem → Prop) (h : Lst (balC n) (strs (balR n)) M R) : Does Try.prog 49 [.int .i64 n] M R := by
  unfold balC balR inB at h
  refine does_fn tab_ok Try.func49 rfl (by kernel_rfl) (by kernel_rfl) Try.ntmps49 Try.results49 rfl ?_
  simp (disch := omega)
  refine l01In_does n 0 10 _ _ ?_
  by_cases h1 : 0 ≤ n ∧ n ≤ 10
  · rw [decide_eq_true h1, if_pos rfl, if_pos rfl] at h
    rw [decide_eq_true h1]
    obtain ⟨n, rfl⟩ : ∃ k : Nat, n = k := ⟨n.toNat, by omega⟩
    rw [Int.toNat_natCast] at h
    simp (disch := omega)
    intro b0 hb0
    simp (disch := omega)
    refine loop_to tab_ok [4, 5, 6, 7, 9, 10, 15, 16, 17, 18, 19, 20, 21, 22, 23, 24, 25, 26, 27, 28, 29, 30, 31, 32, 33, 34, 35, 36, 37, 38, 39, 40, 41, 42, 43, 44, 45, 46] (fun x : Nat × Value => [(5, .int .i64 x.1), (4, x.2)]) (fun x M' => x.1 ≤ n ∧ Own M x.2 (strs (balL x.1)) M') (fun x => n - x.1) (0, .slice (some ⟨b0, 0, none⟩) 1 1) (by kernel_rfl) (by simp (disch := omega)) ⟨by omega, Own.new hb0 rfl (Nat.le_refl 1)⟩ ?_
    rintro ⟨i, v⟩ M' g ⟨hi, ho⟩
    simp only at hi ho
    by_cases hlt : i < n
    · obtain ⟨a, c, rfl, ha⟩ := ho.rd.opened
      have hbl := balL_len i
      have hp := pow2_le (show i ≤ 10 by omega)
      obtain ⟨r, hr⟩ : ∃ r, (balL i).length = r := ⟨_, rfl⟩
      rw [strs_length, hr] at ha ho ⊢
      simp (disch := omega)
      intro bn hbn
      simp (disch := omega)
      have hsn : Sub M' (M'.put bn (.cells true [] 0)) := (Sub.refl _).put hbn _
      refine loop_to tab_ok [6, 7, 9, 10, 21, 22, 23, 24, 25, 26, 27, 28, 29, 30, 31, 32, 33, 34, 35, 36, 37, 38, 39, 40, 41, 42, 43, 44, 45] (fun x : Nat × Value => [(7, .int .i64 x.1), (6, x.2)]) (fun x M1 => x.1 ≤ r ∧ Own M' x.2 (strs (grB ((balL i).take x.1))) M1) (fun x => r - x.1) (0, .slice (some ⟨bn, 0, none⟩) 0 0) (by kernel_rfl) (by simp (disch := omega)) ⟨by omega, Own.new hbn rfl (Nat.le_refl 0)⟩ ?_
      rintro ⟨j, v1⟩ M1 g1 ⟨hj, ho1⟩
      simp only at hj ho1
      by_cases hjl : j < r
      · rcases ha with h0 | ⟨b, o, rfl, ha⟩
        · omega
        have hjl' : j < (balL i).length := by omega
        have hx : (balL i)[j]? = some (balL i)[j] := List.getElem?_eq_getElem hjl'
        have hmem := List.getElem_mem hjl'
        have hsn2 := take_snoc (balL i) hjl'
        obtain ⟨w, hw⟩ : ∃ w, (balL i)[j] = w := ⟨_, rfl⟩
        rw [hw] at hmem hsn2
        obtain ⟨hwl, hwab⟩ := balL_word hmem
        have hg0 := ha j hjl
        rw [strs_get, hx, hw] at hg0
        have hg0 : M'.get? b (o + j) = some (str w) := hg0
        simp (disch := omega)
        intro bl hbl'
        have k1 : (M1.put bl (.cells true [str [97], str [98]] 2)) bl = some (.cells true [str [97], str [98]] 2) := put_same _ _ _
        simp (disch := omega)
        have hcap := List.length_filter_le balB2 (growA ((balL i).take j) 2)
        rw [growA_len, List.length_take] at hcap
        refine loop_to tab_ok [6, 9, 10, 29, 30, 31, 32, 33, 34, 35, 36, 37, 38, 39, 40, 41, 42, 43, 44, 45] (fun x : Nat × Value => [(29, .int .i64 x.1), (6, x.2)]) (fun x M2 => x.1 ≤ 2 ∧ ∃ D, Sub M' D ∧ D bl = some (.cells true [str [97], str [98]] 2) ∧ Own D x.2 (strs (grB ((balL i).take j) ++ (grow1 w x.1).filter balB2)) M2) (fun x => 2 - x.1) (0, v1) (by kernel_rfl) (by simp (disch := omega)) ⟨by omega, ?_⟩ ?_
        · refine ⟨M'.put bl (.cells true [str [97], str [98]] 2), (Sub.refl _).put (none_of ho1.sub hbl') _, put_same _ _ _, ?_⟩
          simp only [grow1, List.range_zero, List.map_nil, List.filter_nil, List.append_nil]
          exact ho1.push hbl' _
        rintro ⟨y, v2⟩ M2 g2 ⟨hy, D, hD, hDl, ho2⟩
        simp only at hy ho2
        have hg := get_keep hg0 (hD.trans ho2.sub)
        by_cases hyl : y < 2
        · have hly : M2.get? bl y = some (str [ltr y]) := by
            rw [get_of (ho2.sub _ _ hDl)]
            have : y = 0 ∨ y = 1 := by omega
            rcases this with rfl | rfl <;> rfl
          have hgs : (grow1 w (y + 1)).filter balB2 = (grow1 w y).filter balB2 ++ if balB2 (w ++ [ltr y]) then [w ++ [ltr y]] else [] := by
            rw [grow1_succ, List.filter_append]
            cases hb : balB2 (w ++ [ltr y]) <;> simp [hb]
          have hcnt : (grB ((balL i).take j) ++ (grow1 w y).filter balB2).length ≤ 3000 := by
            rw [List.length_append]
            have h2 := List.length_filter_le balB2 (grow1 w y)
            have h3 : (grow1 w y).length = y := by simp [grow1]
            unfold grB
            omega
          simp (disch := omega) [hly, hg]
          refine l08Balanced_does (w ++ [ltr y]) _ _ (by simp; omega) ?_
          generalize hq : grB ((balL i).take j) ++ (grow1 w y).filter balB2 = Q at *
          cases hb : balB2 (w ++ [ltr y])
          · rw [hb, if_neg (by decide), List.append_nil] at hgs
            simp (disch := omega)
            refine Rnd.mk' (y + 1, v2) (by simp only; omega) (by (repeat (first | exact km | refine kp rfl ?_ | refine km' rfl ?_))) (by simp (disch := omega)) ⟨by simp only; omega, D, hD, hDl, ?_⟩
            simp only
            rw [hgs, hq]
            exact ho2
          · rw [hb, if_pos rfl] at hgs
            simp (disch := omega)
            intro b' hb'
            simp (disch := omega)
            refine app_own ho2 ((Sub.refl _).put hb' _) (by simp (disch := omega); rfl) rfl rfl (by omega) (by simp (disch := omega)) (by simp (disch := omega); omega) ?_
            intro v' M'' N'' ho' hs'
            simp (disch := omega)
            refine Rnd.mk'' M'' (y + 1, v') hs' (by simp only; omega) (by (repeat (first | exact km | refine kp rfl ?_ | refine km' rfl ?_))) (by simp (disch := omega)) ⟨by simp only; omega, D, hD, hDl, ?_⟩
            simp only
            rw [hgs, ← List.append_assoc, hq, ← strs_snoc]
            exact ho'
        · have hy' : y = 2 := by omega
          subst hy'
          rw [← grB_snoc, ← hsn2] at ho2
          obtain ⟨M3, o3, s3⟩ := ho2.base hD
          simp (disch := omega)
          exact Rnd.mk'' M3 (j + 1, v2) s3 (by simp only; omega) (by (repeat (first | exact km | refine kp rfl ?_ | refine km' rfl ?_))) (by simp (disch := omega)) ⟨by simp only; omega, o3⟩
      · have hj' : j = r := by omega
        have htk : (balL i).take j = balL i := List.take_of_length_le (by omega)
        rw [htk] at ho1
        have e : grB (balL i) = balL (i + 1) := rfl
        rw [e] at ho1
        obtain ⟨M3, o3, s3⟩ := ho1.base ho.sub
        simp (disch := omega)
        exact Rnd.mk'' M3 (i + 1, v1) s3 (by simp only; omega) (by (repeat (first | exact km | refine kp rfl ?_ | refine km' rfl ?_))) (by simp (disch := omega)) ⟨by simp only; omega, o3⟩
    · have hi' : i = n := by omega
      subst hi'
      simp (disch := omega)
      exact ret_of (h v M' ho)
  · rw [decide_eq_false h1] at h
    rw [decide_eq_false h1]
    simp (disch := omega)
    exact ret_of (h _ _ (Own.nil _))
theorem impl_wordsL_does (m k L : Nat) (l : Int) (hlL : l = L) (hL : L ≤ 100000) (hL1 : 1 ≤ L) (M : Mem) (R : Value → Mem → Prop) (hm : m ≤ 60) (hk : 1 ≤ k) (hk' : k ≤ 5)
    (h1 : k ^ m ≤ L → ∀ v M', Own M v (strs (allW k m)) M' → R (.tuple #[v, .bool true]) M') (h0 : L < k ^ m → R (.tuple #[.slice none 0 0, .bool false]) M) : Does Try.prog 123 [.int .i64 m, .int .i64 k, .int .i64 l] M R := by
  subst hlL
  refine does_fn tab_ok Try.func123 rfl (by kernel_rfl) (by kernel_rfl) Try.ntmps123 Try.results123 rfl ?_
  simp (disch := omega)
  intro b0 hb0
  simp (disch := omega)
  refine loop_to tab_ok [6, 7, 8, 9, 11, 12, 15, 16, 17, 18, 19, 20, 21, 22, 23, 24, 25, 26, 27, 28, 29, 30, 31, 32, 33, 34, 35, 36, 37, 38, 39, 40, 41] (fun x : Nat × Value => [(15, .int .i64 x.1), (8, x.2)]) (fun x M' => x.1 ≤ m ∧ k ^ x.1 ≤ L ∧ Own M x.2 (strs (allW k x.1)) M') (fun x => m - x.1) (0, .slice (some ⟨b0, 0, none⟩) 1 1) (by kernel_rfl) (by simp (disch := omega)) ⟨by omega, by simpa using hL1, Own.new hb0 rfl (Nat.le_refl 1)⟩ ?_
  rintro ⟨i, v⟩ M' g ⟨hi, hle, ho⟩
  simp only at hi hle ho
  obtain ⟨r, hr⟩ : ∃ r, r = k ^ i := ⟨_, rfl⟩
  rw [← hr] at hle
  by_cases hlt : i < m
  · obtain ⟨a, c, rfl, ha⟩ := ho.rd.opened
    have hl : (allW k i).length = r := by rw [hr]; exact allW_len k i
    rw [strs_length, hl] at ha ho ⊢
    simp (disch := omega)
    refine loop_to tab_ok [9, 11, 12, 19, 20, 21, 22, 23, 24, 25, 26, 27, 28, 29, 30, 31, 32, 33, 34, 35] (fun x : Nat × Value => [(19, .int .i64 x.1), (9, x.2)]) (fun x M1 => x.1 ≤ r ∧ Own M' x.2 (strs (growA ((allW k i).take x.1) k)) M1) (fun x => r - x.1) (0, .slice none 0 0) (by kernel_rfl) (by simp (disch := omega)) ⟨by omega, Own.nil _⟩ ?_
    rintro ⟨j, v1⟩ M1 g1 ⟨hj, ho1⟩
    simp only at hj ho1
    by_cases hjl : j < r
    · rcases ha with h0 | ⟨b, o, rfl, ha⟩
      · omega
      have hjl' : j < (allW k i).length := by omega
      have hx : (allW k i)[j]? = some (allW k i)[j] := List.getElem?_eq_getElem hjl'
      obtain ⟨w, hw⟩ : ∃ w, (allW k i)[j] = w := ⟨_, rfl⟩
      have hwl : w.length = i := by rw [← hw]; exact allW_word k i _ (List.getElem_mem hjl')
      have hg0 := ha j hjl
      rw [strs_get, hx, hw] at hg0
      have hg : M1.get? b (o + j) = some (str w) := by
        have e : M'.get? b (o + j) = some (str w) := hg0
        unfold Mem.get? at e ⊢
        cases hMb : M' b with
        | none => rw [hMb] at e; cases e
        | some B => rw [hMb] at e; rw [ho1.sub _ _ hMb]; exact e
      simp (disch := omega) [hg]
      refine loop_to tab_ok [9, 12, 24, 25, 26, 27, 28, 29, 30, 31, 32, 33, 34] (fun x : Nat × Value => [(24, .int .i64 x.1), (9, x.2)]) (fun x M2 => x.1 ≤ k ∧ Own M' x.2 (strs (growA ((allW k i).take j) k ++ grow1 w x.1)) M2) (fun x => k - x.1) (0, v1) (by kernel_rfl) (by simp (disch := omega)) ⟨by omega, by simpa [grow1] using ho1⟩ ?_
      rintro ⟨y, v2⟩ M2 g2 ⟨hy, ho2⟩
      simp only at hy ho2
      by_cases hyl : y < k
      · have hcnt : (growA ((allW k i).take j) k ++ grow1 w y).length ≤ 2000000 := by
          rw [List.length_append, growA_len, List.length_take]
          have h1 : min j (allW k i).length * k ≤ 100000 * 5 := Nat.mul_le_mul (by omega) hk'
          have h2 : (grow1 w y).length = y := by simp [grow1]
          omega
        simp (disch := omega)
        refine letterN_does y _ _ (by omega) ?_
        simp (disch := omega)
        intro b' hb'
        simp (disch := omega)
        refine app_own ho2 ((Sub.refl _).put hb' _) (by simp (disch := omega); rfl) rfl rfl (by omega) (by simp (disch := omega)) (by simp (disch := omega); simp only [List.length_append] at hcnt; omega) ?_
        intro v' M'' N'' ho' hs'
        simp (disch := omega)
        refine Rnd.mk'' M'' (y + 1, v') hs' (by simp only; omega) (by (repeat (first | exact km | refine kp rfl ?_ | refine km' rfl ?_))) (by simp (disch := omega)) ⟨by simp only; omega, ?_⟩
        simp only
        rw [grow1_succ, ← List.append_assoc, ← strs_snoc]
        exact ho'
      · have hy' : y = k := by omega
        subst hy'
        simp (disch := omega)
        refine Rnd.mk' (j + 1, v2) (by simp only; omega) (by (repeat (first | exact km | refine kp rfl ?_ | refine km' rfl ?_))) (by simp (disch := omega)) ⟨by simp only; omega, ?_⟩
        simp only
        rw [take_snoc _ hjl', hw, growA_snoc]
        exact ho2
    · have hj' : j = r := by omega
      have htk : (allW k i).take j = allW k i := List.take_of_length_le (by omega)
      rw [htk] at ho1
      have e : growA (allW k i) k = allW k (i + 1) := rfl
      rw [e] at ho1
      have hl2 := allW_len k (i + 1)
      have hp : k ^ (i + 1) ≤ 500000 := by
        rw [Nat.pow_succ, ← hr]
        exact Nat.mul_le_mul (by omega : r ≤ 100000) hk'
      have ho3 := ho1.base ho.sub
      obtain ⟨a2, c2, rfl, ha2⟩ := ho1.rd.opened
      rw [strs_length, hl2] at ho3 ⊢
      by_cases hbig : (L : Int) < (k ^ (i + 1) : Nat)
      · have hmon : k ^ (i + 1) ≤ k ^ m := Nat.pow_le_pow_right hk (by omega)
        obtain ⟨q, hq⟩ : ∃ q, q = k ^ (i + 1) := ⟨_, rfl⟩
        rw [← hq] at hbig ⊢
        simp (disch := omega) [hbig]
        exact ret_sub (ho.sub.trans ho1.sub) (h0 (by omega))
      · obtain ⟨q, hq⟩ : ∃ q, q = k ^ (i + 1) := ⟨_, rfl⟩
        rw [← hq] at hbig ho3 ⊢
        simp (disch := omega) [hbig]
        obtain ⟨M3, o3, s3⟩ := ho3
        refine Rnd.mk'' M3 (i + 1, .slice a2 q c2) s3 (by simp only; omega) (by (repeat (first | exact km | refine kp rfl ?_ | refine km' rfl ?_))) (by simp (disch := omega)) ⟨by simp only; omega, by rw [← hq]; omega, o3⟩
  · have hi' : i = m := by omega
    subst hi'
    simp (disch := omega)
    exact ret_of (h1 (by rw [← hr]; exact hle) v M' ho)
theorem balanced1_tells (ss : List (List UInt8)) (hs : ∀ u ∈ ss, u.length ≤ 10 ∧ AB u) : TellsS Try.prog (.func (.func 124) #[] #[]) ss (fun u => !balB2 u) := by
  intro u hu M R h
  have h : ∀ M', Sub M M' → R (.bool (!balB2 u)) M' := h
  obtain ⟨h10, hab⟩ := hs u hu
  have hw : isWord u = true := by
    unfold isWord
    rw [Bool.and_eq_true, decide_eq_true_eq, List.all_eq_true]
    refine ⟨by omega, fun c hc => ?_⟩
    rcases hab c hc with rfl | rfl <;> rfl
  have hb := bal_is hab
  simp (disch := omega)
  refine does_fn tab_ok Try.func124 rfl (by kernel_rfl) (by kernel_rfl) Try.ntmps124 Try.results124 rfl ?_
  simp (disch := omega)
  refine balance_does u _ _ hw ?_
  intro M' hs
  simp only [← hb] at h
  generalize balM u u.length = q at *
  simp (disch := omega)
  refine ret_of ?_
  have e : decide (1 < q) = !decide (q ≤ 1) := by
    by_cases h1 : q ≤ 1
    · rw [decide_eq_true h1]; exact decide_eq_false (by omega)
    · rw [decide_eq_false h1]; exact decide_eq_true (by omega)
  rw [e]
  exact h _ hs
theorem impl_BalancedWords (n : Int) (M : Mem) (R : Value → Mem → Prop) (h : Lst (balC n) (strs (balR n)) M R) : Does Try.prog 50 [.int .i64 n] M R := by
  unfold balC balR inB at h
  refine does_fn tab_ok Try.func50 rfl (by kernel_rfl) (by kernel_rfl) Try.ntmps50 Try.results50 rfl ?_
  simp (disch := omega)
  refine within_does n 0 10 _ _ ?_
  by_cases h1 : 0 ≤ n ∧ n ≤ 10
  · rw [decide_eq_true h1, if_pos rfl, if_pos rfl] at h
    rw [decide_eq_true h1]
    obtain ⟨n, rfl⟩ : ∃ k : Nat, n = k := ⟨n.toNat, by omega⟩
    rw [Int.toNat_natCast] at h
    simp (disch := omega)
    have hp := pow2_le (show n ≤ 10 by omega)
    refine impl_wordsL_does n 2 1024 1024 rfl (by omega) (by omega) _ _ (by omega) (by omega) (by omega) ?_ (fun hh => by omega)
    intro _ v M1 o1
    simp (disch := omega)
    refine deleteFunc_does v _ (allW 2 n) (fun u => !balB2 u) _ _ _ o1 (balanced1_tells _ fun u hu => ⟨by rw [allW_word 2 n u hu]; omega, allW_ab n u hu⟩) (by rw [allW_len]; omega) ?_
    intro v' M' o
    have e : (allW 2 n).filter (fun u => !(fun u => !balB2 u) u) = balL n := by
      rw [balL_is]
      simp
    rw [e] at o
    simp (disch := omega)
    exact ret_of (h v' M' o)
  · rw [decide_eq_false h1] at h
    rw [decide_eq_false h1]
    simp (disch := omega)
    exact ret_of (h _ _ (Own.nil _))
theorem law_BalancedWords (n : Int) (M : Mem) (R : Value → Mem → Prop) (hn : -9223372036854775808 ≤ n ∧ n ≤ 9223372036854775807) (h : ∀ M', Sub M M' → R (.bool true) M') : Does Try.prog 8 [.int .i64 n] M R := by
  have hb : (balR n).length ≤ 1024 := by
    unfold balR inB
    split
    · rename_i hq
      rw [decide_eq_true_eq] at hq
      exact Nat.le_trans (balL_len _) (pow2_le (by omega))
    · simp
  have e1 := spec_BalancedWords n
  have e2 := impl_BalancedWords n
  revert e1 e2 hb
  generalize balC n = c
  generalize balR n = zs
  intro hb e1 e2
  refine does_fn tab_ok Try.func8 rfl (by kernel_rfl) (by kernel_rfl) Try.ntmps8 Try.results8 rfl ?_
  simp (disch := omega)
  refine e1 _ _ ?_
  intro v1 M1 o1
  simp (disch := omega)
  refine e2 _ _ ?_
  intro v2 M2 o2
  simp (disch := omega)
  refine eqStringS_does v2 v1 zs zs _ _ o2.rd (o1.rd.sub o2.sub) (by omega) (by omega) ?_
  simp (disch := omega)
  refine markStringS_does v2 _ _ _ _ _ o2 (by simp (disch := omega); omega) (by omega) (by omega) ?_
  intro M3 o3
  simp (disch := omega)
  refine heldStringS_does v2 _ _ _ _ o3.rd (by simp (disch := omega); omega) (by omega) (by omega) ?_
  simp (disch := omega)
  refine e2 _ _ ?_
  intro v4 M4 o4
  simp (disch := omega)
  refine eqStringS_does v4 v1 zs zs _ _ o4.rd ((o1.rd.sub o3.sub).sub o4.sub) (by omega) (by omega) ?_
  simp (disch := omega)
  refine heldStringS_does v2 _ _ _ _ (o3.rd.sub o4.sub) (by simp (disch := omega); omega) (by omega) (by omega) ?_
  simp (disch := omega)
  exact ret_of (h _ (((o1.sub.trans o3.sub)).trans o4.sub))
end Go.Proofs.Ytbefijbmgmbphaa

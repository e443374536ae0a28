/- Contracts: matrices of morphisms. -/
import Derived.Test.YtbefijbmgmbphaaC20
import Derived.Test.YtbefijbmgmbphaaC10
import Derived.Test.YtbefijbmgmbphaaE9
namespace Go.Proofs.Ytbefijbmgmbphaa
open Go
set_option linter.unusedSimpArgs false
set_option linter.unusedVariables false

/-- A row of the matrix. -/
def rowM (m : Nat) (w : List UInt8) : List Int := (counts w).take m
def matM (ws : List (List UInt8)) : List (List Int) := ws.map (rowM ws.length)
theorem rowM_length {m : Nat} (h : m ≤ 5) (w : List UInt8) : (rowM m w).length = m := by unfold rowM; rw [List.length_take, counts_length]; omega
theorem matM_length (ws : List (List UInt8)) : (matM ws).length = ws.length := by simp [matM]
theorem counts_split (m : Nat) (w : List UInt8) : ints (counts w) = ints (rowM m w) ++ ints ((counts w).drop m) := by rw [ints_append, rowM, List.take_append_drop]
theorem matM_get {ws : List (List UInt8)} {i : Nat} (h : i < ws.length) : (matM ws)[i]'(by rw [matM_length]; exact h) = rowM ws.length ws[i] := by simp [matM]
theorem matM_snoc {ws : List (List UInt8)} {i : Nat} (h : i < ws.length) : (matM ws).take (i + 1) = (matM ws).take i ++ [rowM ws.length ws[i]] := by rw [take_snoc (matM ws) (by rw [matM_length]; exact h), matM_get h]
theorem rowM_nil (m : Nat) (h : m ≤ 5) : rowM m [] = List.replicate m 0 := by
  unfold rowM
  rw [counts_nil]
  have : m = 0 ∨ m = 1 ∨ m = 2 ∨ m = 3 ∨ m = 4 ∨ m = 5 := by omega
  rcases this with rfl | rfl | rfl | rfl | rfl | rfl <;> rfl
theorem rowM_snoc (m : Nat) (l : List UInt8) (u : UInt8) (h : isL u = true) : rowM m (l ++ [u]) = (rowM m l).set (u.toNat - 97) (cnt l (u.toNat - 97) + 1) := by
  unfold rowM
  rw [counts_snoc l u h, List.take_set]
theorem rowM_get (m : Nat) (l : List UInt8) {k : Nat} (hk : k < m) (h5 : k < 5) : (rowM m l)[k]? = some (cnt l k) := by
  unfold rowM
  rw [List.getElem?_take_of_lt hk, counts_get l h5]
theorem row_does (v : Value) (ws : List (List UInt8)) (i : Nat) (M : Mem) (R : Value → Mem → Prop) (hv : Rd M v (strs ws)) (hm : isMor ws = true) (hi : i < ws.length)
    (h : ∀ b c M', M b = none → M' = M.put b (.cells true (ints (counts ws[i])) c) → R (.slice (some ⟨b, 0, none⟩) ws.length ws.length) M') : Does Try.prog 144 [.agg #[v], .int .i64 i] M R := by
  refine does_fn tab_ok Try.func144 rfl (by kernel_rfl) (by kernel_rfl) Try.ntmps144 Try.results144 rfl ?_
  obtain ⟨a, c, rfl, ha⟩ := hv.opened
  have h15 := mor_len hm
  rw [strs_length] at ha hv ⊢
  simp (disch := omega)
  intro b1 hb1
  have hs1 : Sub M (M.put b1 (.cells true [.slice a ws.length c] 1)) := (Sub.refl M).put hb1 _
  have k1 : (M.put b1 (.cells true [.slice a ws.length c] 1)) b1 = some (.cells true [.slice a ws.length c] 1) := put_same _ _ _
  rcases ha with h0 | ⟨b, o, rfl, ha⟩
  · omega
  have hg0 := ha i hi
  rw [strs_get, List.getElem?_eq_getElem hi] at hg0
  have hg := get_keep hg0 hs1
  obtain ⟨w, hw⟩ : ∃ w, w = ws[i] := ⟨_, rfl⟩
  rw [← hw] at hg h
  have hwo := mor_ok hm (List.getElem_mem hi)
  rw [← hw] at hwo
  simp (disch := omega)
  generalize M.put b1 (.cells true [.slice (some ⟨b, o, none⟩) ws.length c] 1) = N at *
  refine draws [0, 1, 2, 3, 4, 6, 7, 8, 9, 10, 11, 5, 12, 13] [0, 0, 0, 0, 0, 0, 0, 0, 0, 0, 0, 1, 0, 0] tab_ok (by kernel_rfl) (by kernel_rfl) (by kernel_rfl) (by rfl) ?_
  simp (disch := omega) [sub_of k1, get_of k1, hg]
  refine count_does w _ _ (by omega) (isWord_all hwo.2.1) ?_
  intro v2 N2 o2
  obtain ⟨M2, o3, s3⟩ := o2.base hs1
  have hs2 := o2.sub
  rcases o3 with ⟨_, h0, _⟩ | ⟨b2, c2, rfl, hb2, hc2, rfl⟩
  · have := congrArg List.length h0
    rw [ints_length, counts_length] at this
    simp at this
  rw [ints_length, counts_length] at hc2 ⊢
  simp (disch := omega)
  refine ⟨hs2, ?_⟩
  exact ret_sub s3 (h b2 c2 _ hb2 rfl)
theorem matrix_does (v : Value) (ws : List (List UInt8)) (M : Mem) (R : Value → Mem → Prop) (hv : Rd M v (strs ws)) (hm : isMor ws = true)
    (h : ∀ v rs N M', RowsOf M rs (matM ws) N → Own N v rs M' → R v M') : Does Try.prog 146 [.agg #[v]] M R := by
  refine does_fn tab_ok Try.func146 rfl (by kernel_rfl) (by kernel_rfl) Try.ntmps146 Try.results146 rfl ?_
  obtain ⟨a, c, rfl, ha⟩ := hv.opened
  have h15 := mor_len hm
  rw [strs_length] at ha hv ⊢
  simp (disch := omega)
  intro b1 hb1
  have hs1 : Sub M (M.put b1 (.cells true [.slice a ws.length c] 1)) := (Sub.refl M).put hb1 _
  have hv1 := hv.put hb1 (.cells true [.slice a ws.length c] 1)
  have k1 : (M.put b1 (.cells true [.slice a ws.length c] 1)) b1 = some (.cells true [.slice a ws.length c] 1) := put_same _ _ _
  simp (disch := omega)
  generalize M.put b1 (.cells true [.slice a ws.length c] 1) = N1 at *
  refine loop_to tab_ok [3, 4, 8, 9, 10, 11, 12, 13, 14, 15, 16, 17] (fun x : Nat × List Value × Value => [(8, .int .i64 x.1), (3, x.2.2)]) (fun x M' => x.1 ≤ ws.length ∧ ∃ N, RowsOf N1 x.2.1 ((matM ws).take x.1) N ∧ Own N x.2.2 x.2.1 M') (fun x => ws.length - x.1) (0, [], .slice none 0 0) (by kernel_rfl) (by simp (disch := omega)) ⟨by simp, N1, .nil, Own.nil _⟩ ?_
  rintro ⟨i, rs, v3⟩ M' g ⟨hi, N, hr, ho⟩
  simp only at hi hr ho
  have hrl := hr.len
  rw [List.length_take, matM_length] at hrl
  by_cases hlt : i < ws.length
  · have s1 := hr.sub.trans ho.sub
    have k2 := s1 _ _ k1
    simp (disch := omega) [sub_of k2]
    refine row_does _ ws i _ _ (hv1.sub s1) hm hlt ?_
    rintro b2 c2 M2 hb2 rfl
    have hsp := counts_split ws.length ws[i]
    have hrw := rowM_length (m := ws.length) (by omega) ws[i]
    have hr2 := hr.more (c := c2) ws.length (ints ((counts ws[i]).drop ws.length)) (none_of ho.sub hb2) (r := rowM ws.length ws[i]) (by omega)
    rw [← hsp, hrw] at hr2
    have ho2 := ho.push hb2 (.cells true (ints (counts ws[i])) c2)
    simp (disch := omega)
    intro b3 hb3
    simp (disch := omega)
    refine app_own ho2 ((Sub.refl _).put hb3 _) (by simp (disch := omega); rfl) rfl rfl (by omega) (by simp (disch := omega)) (by simp (disch := omega); omega) ?_
    intro v4 M4 N4 o4 s4
    simp (disch := omega)
    refine Rnd.mk'' M4 (i + 1, _, v4) s4 (by simp only; omega) (by (repeat (first | exact km | refine kp rfl ?_ | refine km' rfl ?_))) (by simp (disch := omega)) ⟨by simp only; omega, _, ?_, o4⟩
    simp only
    rw [matM_snoc hlt]
    exact hr2
  · have hi' : i = ws.length := by omega
    subst hi'
    rw [List.take_of_length_le (by rw [matM_length]; omega)] at hr
    simp (disch := omega)
    obtain ⟨N5, M5, r5, o5, s5⟩ := base_SS hr ho hs1
    exact ret_sub s5 (h v3 rs N5 M5 r5 o5)
theorem impl_MatrixOf (v : Value) (ws : List (List UInt8)) (M : Mem) (R : Value → Mem → Prop) (hv : Rd M v (strs ws)) (hf : Fine ws) (hn : ws.length ≤ 1099511627776) (h : LstSS (morC ws) (if isMor ws then matM ws else []) M R) : Does Try.prog 59 [.agg #[v]] M R := by
  refine does_fn tab_ok Try.func59 rfl (by kernel_rfl) (by kernel_rfl) Try.ntmps59 Try.results59 rfl ?_
  obtain ⟨a, c, rfl, ha⟩ := hv.opened
  rw [strs_length] at hv ⊢
  simp (disch := omega)
  intro b1 hb1
  have hs1 : Sub M (M.put b1 (.cells true [.slice a ws.length c] 1)) := (Sub.refl M).put hb1 _
  have hv1 := hv.put hb1 (.cells true [.slice a ws.length c] 1)
  have k1 : (M.put b1 (.cells true [.slice a ws.length c] 1)) b1 = some (.cells true [.slice a ws.length c] 1) := put_same _ _ _
  simp (disch := omega)
  generalize M.put b1 (.cells true [.slice a ws.length c] 1) = N1 at *
  refine morphismCode0_does _ ws _ _ hv1 hf hn ?_
  unfold morC at h ⊢
  cases hm : isMor ws
  · rw [hm] at h
    simp (disch := omega)
    exact ret_sub hs1 (h _ _ _ _ .nil (Own.nil M))
  · rw [hm, if_pos rfl, if_pos rfl] at h
    simp (disch := omega) [sub_of k1]
    refine matrix_does _ ws _ _ hv1 hm ?_
    intro v2 rs N2 M2 r2 o2
    simp (disch := omega)
    obtain ⟨N5, M5, r5, o5, s5⟩ := base_SS r2 o2 hs1
    exact ret_sub s5 (h v2 rs N5 M5 r5 o5)
theorem l06Matrix_does (v : Value) (ws : List (List UInt8)) (M : Mem) (R : Value → Mem → Prop) (hv : Rd M v (strs ws)) (hm : isMor ws = true)
    (h : ∀ v rs N M', RowsOf M rs (matM ws) N → Own N v rs M' → R v M') : Does Try.prog 145 [.agg #[v]] M R := by
  refine does_fn tab_ok Try.func145 rfl (by kernel_rfl) (by kernel_rfl) Try.ntmps145 Try.results145 rfl ?_
  obtain ⟨a, c, rfl, ha⟩ := hv.opened
  have h15 := mor_len hm
  rw [strs_length] at ha hv ⊢
  simp (disch := omega)
  intro b1 hb1
  have hs1 : Sub M (M.put b1 (.cells true [.slice a ws.length c] 1)) := (Sub.refl M).put hb1 _
  have k1 : (M.put b1 (.cells true [.slice a ws.length c] 1)) b1 = some (.cells true [.slice a ws.length c] 1) := put_same _ _ _
  rcases ha with h0 | ⟨b, o, rfl, ha⟩
  · omega
  simp (disch := omega)
  generalize M.put b1 (.cells true [.slice (some ⟨b, o, none⟩) ws.length c] 1) = N1 at *
  intro b0 hb0
  simp (disch := omega)
  refine loop_to tab_ok [3, 4, 5, 6, 8, 9, 10, 11, 12, 13, 14, 15, 16, 17, 18, 19, 20, 21, 22, 23, 24, 25, 26, 27, 28, 29, 30, 31, 32, 33, 34, 35, 36, 37, 38, 39, 40, 41, 42, 43, 44, 45] (fun x : Nat × List Value × Value => [(4, .int .i64 x.1), (3, x.2.2)]) (fun x M' => x.1 ≤ ws.length ∧ ∃ N, RowsOf N1 x.2.1 ((matM ws).take x.1) N ∧ Own N x.2.2 x.2.1 M') (fun x => ws.length - x.1) (0, [], .slice (some ⟨b0, 0, none⟩) 0 0) (by kernel_rfl) (by simp (disch := omega)) ⟨by simp, N1, .nil, Own.new hb0 rfl (Nat.le_refl 0)⟩ ?_
  rintro ⟨i, rs, v3⟩ M' g ⟨hi, N, hr, ho⟩
  simp only at hi hr ho
  have hrl := hr.len
  rw [List.length_take, matM_length] at hrl
  have s1 := hr.sub.trans ho.sub
  have k2 := s1 _ _ k1
  by_cases hlt : i < ws.length
  · have hg0 := ha i hlt
    rw [strs_get, List.getElem?_eq_getElem hlt] at hg0
    have hg := get_keep hg0 (hs1.trans s1)
    have hwo := mor_ok hm (List.getElem_mem hlt)
    have hsn := matM_snoc hlt
    obtain ⟨w, hw⟩ : ∃ w, w = ws[i] := ⟨_, rfl⟩
    rw [← hw] at hg hwo hsn
    have hL := lt_of (isWord_all hwo.2.1) hwo.2.2
    simp (disch := omega) [sub_of k2, get_of k2]
    intro b5 hb5
    have hne : b1 ≠ b5 := by rintro rfl; rw [hb5] at k2; cases k2
    have hneb : b ≠ b5 := by rintro rfl; unfold Mem.get? at hg; rw [hb5] at hg; cases hg
    simp (disch := omega) [sub_of k2, get_of k2]
    refine loop_to tab_ok [6, 19, 20, 21, 22, 23, 24, 25, 26, 27, 28, 29, 30, 31, 32, 33, 34, 35, 36, 37, 38, 39, 40, 41] (fun q : Nat => [(6, .int .i64 q)]) (fun q M1 => q ≤ w.length ∧ M1 = M'.put b5 (.cells true (ints (rowM ws.length (w.take q))) ws.length)) (fun q => w.length - q) 0 (by kernel_rfl) (by simp (disch := omega)) ⟨by omega, by rw [List.take_zero, rowM_nil _ h15.2, ints_rep]⟩ ?_
    rintro q M1 g1 ⟨hq, rfl⟩
    have hrw := rowM_length (m := ws.length) (by omega) (w.take q)
    by_cases hql : q < w.length
    · have hx : w[q]? = some w[q] := List.getElem?_eq_getElem hql
      have hLq := hL _ (List.getElem_mem hql)
      have hlq := List.all_eq_true.1 (isWord_all hwo.2.1) _ (List.getElem_mem hql)
      have hr5 := isL_range hlq
      have hk : ((w[q].toNat : Int) - 97).toNat = w[q].toNat - 97 := by omega
      have hget := rowM_get ws.length (w.take q) (k := w[q].toNat - 97) hLq.2 (by omega)
      have hset := rowM_snoc ws.length (w.take q) w[q] hlq
      rw [← take_snoc w hql] at hset
      have hcl := cnt_le (w.take q) (w[q].toNat - 97)
      rw [List.length_take] at hcl
      obtain ⟨kk, hkk⟩ : ∃ kk, kk = w[q].toNat - 97 := ⟨_, rfl⟩
      have hkl : kk < ws.length := by rw [hkk]; exact hLq.2
      rw [← hkk] at hk hget hset hcl
      have hgi : (ints (rowM ws.length (w.take q)))[kk]? = some (.int .i64 (cnt (w.take q) kk)) := by rw [ints_get, hget]; rfl
      simp (disch := omega) [sub_of k2, get_of k2, hg, hx, hk, hgi, ints_set, hrw]
      refine Rnd.mk' (q + 1) (by omega) (by (repeat (first | exact km | refine kp rfl ?_ | refine km' rfl ?_))) (by simp (disch := omega)) ⟨by omega, ?_⟩
      rw [hset]
    · have hq' : q = w.length := by omega
      subst hq'
      rw [List.take_length] at hrw ⊢
      have hr2 := hr.more (c := ws.length) ws.length [] (none_of ho.sub hb5) (r := rowM ws.length w) (by omega)
      rw [List.append_nil, hrw] at hr2
      have ho2 := ho.push hb5 (.cells true (ints (rowM ws.length w)) ws.length)
      simp (disch := omega) [sub_of k2, get_of k2, hg]
      intro b3 hb3
      simp (disch := omega)
      refine app_own ho2 ((Sub.refl _).put hb3 _) (by simp (disch := omega); rfl) rfl rfl (by omega) (by simp (disch := omega)) (by simp (disch := omega); omega) ?_
      intro v4 M4 N4 o4 s4
      simp (disch := omega)
      refine Rnd.mk'' M4 (i + 1, _, v4) s4 (by simp only; omega) (by (repeat (first | exact km | refine kp rfl ?_ | refine km' rfl ?_))) (by simp (disch := omega)) ⟨by simp only; omega, _, ?_, o4⟩
      simp only
      rw [hsn]
      exact hr2
  · have hi' : i = ws.length := by omega
    subst hi'
    rw [List.take_of_length_le (by rw [matM_length]; omega)] at hr
    simp (disch := omega) [sub_of k2, get_of k2]
    obtain ⟨N5, M5, r5, o5, s5⟩ := base_SS hr ho hs1
    exact ret_sub s5 (h v3 rs N5 M5 r5 o5)
theorem spec_MatrixOf (v : Value) (ws : List (List UInt8)) (M : Mem) (R : Value → Mem → Prop) (hv : Rd M v (strs ws)) (hf : Fine ws) (hn : ws.length ≤ 1099511627776) (h : LstSS (morC ws) (if isMor ws then matM ws else []) M R) : Does Try.prog 60 [.agg #[v]] M R := by
  refine does_fn tab_ok Try.func60 rfl (by kernel_rfl) (by kernel_rfl) Try.ntmps60 Try.results60 rfl ?_
  obtain ⟨a, c, rfl, ha⟩ := hv.opened
  rw [strs_length] at hv ⊢
  simp (disch := omega)
  intro b1 hb1
  have hs1 : Sub M (M.put b1 (.cells true [.slice a ws.length c] 1)) := (Sub.refl M).put hb1 _
  have hv1 := hv.put hb1 (.cells true [.slice a ws.length c] 1)
  have k1 : (M.put b1 (.cells true [.slice a ws.length c] 1)) b1 = some (.cells true [.slice a ws.length c] 1) := put_same _ _ _
  simp (disch := omega)
  generalize M.put b1 (.cells true [.slice a ws.length c] 1) = N1 at *
  refine l06Is_does _ ws _ _ hv1 hf hn ?_
  unfold morC at h
  cases hm : isMor ws
  · rw [hm] at h
    simp (disch := omega)
    exact ret_sub hs1 (h _ _ _ _ .nil (Own.nil M))
  · rw [hm, if_pos rfl, if_pos rfl] at h
    simp (disch := omega) [sub_of k1]
    refine l06Matrix_does _ ws _ _ hv1 hm ?_
    intro v2 rs N2 M2 r2 o2
    simp (disch := omega)
    obtain ⟨N5, M5, r5, o5, s5⟩ := base_SS r2 o2 hs1
    exact ret_sub s5 (h v2 rs N5 M5 r5 o5)
end Go.Proofs.Ytbefijbmgmbphaa

/- Contracts: WordsWith, of both. -/
import Derived.Test.YthpcojnpiggaiaaGreatM31
import Derived.Test.YthpcojnpiggaiaaGreatC14
namespace Go.Proofs.YthpcojnpiggaiaaGreat
open Go
set_option linter.unusedSimpArgs false
set_option linter.unusedVariables false

theorem src_subV {M N : Mem} {v : Value} {xs : List Value} (h : srcOf M v = some xs) (hs : Sub M N) : srcOf N v = some xs := by
  unfold srcOf at h ⊢
  split at h
  · exact h
  · rename_i b o n c
    have hk : ∀ {M N : Mem}, M.sub? b o n = some xs → Sub M N → N.sub? b o n = some xs := by
      intro M N h hs
      unfold Mem.sub? at h ⊢
      cases hM : M b with
      | none => rw [hM] at h; cases h
      | some B => rw [hM] at h; rw [hs _ _ hM]; exact h
    exact hk h hs
  · exact h
  · cases h
theorem flat_intsV (zs : List Int) : ∀ v ∈ ints zs, flatV v = true := fun v hv => by
  obtain ⟨z, _, rfl⟩ := List.mem_map.1 hv
  rfl
theorem flat_strsV (ws : List (List UInt8)) : ∀ v ∈ strs ws, flatV v = true := fun v hv => by
  obtain ⟨z, _, rfl⟩ := List.mem_map.1 hv
  rfl
/-- An own slice, told over all that is told beside it. -/
theorem own_over {Mb M' N : Mem} {v : Value} {xs : List Value} (o : Own Mb v xs M') (hs : Sub M' N) :
    ∃ Mb2 N2, Own Mb2 v xs N2 ∧ Sub N2 N ∧ Sub Mb Mb2 ∧ ∀ D, Sub D N → (∀ i, M' i ≠ none → D i = none) → Sub D Mb2 := by
  have hall := o.sub.trans hs
  rcases o with ⟨rfl, rfl, rfl⟩ | ⟨b, c, rfl, hb, hc, rfl⟩
  · exact ⟨N, N, Own.nil N, Sub.refl N, hall, fun D h _ => h⟩
  · have hN := hs b _ (put_same _ _ _)
    have hput : (N.del b).put b (.cells true xs c) = N := by
      funext i
      by_cases e : i = b
      · subst e; rw [put_same, hN]
      · rw [put_ne _ _ e]; simp [Mem.del, e]
    refine ⟨N.del b, N, ?_, Sub.refl N, ?_, ?_⟩
    · have := Own.new (M := N.del b) (b := b) (xs := xs) (by simp [Mem.del]) rfl hc
      rwa [hput] at this
    · intro i B hi
      have e : i ≠ b := by rintro rfl; rw [hb] at hi; cases hi
      simp only [Mem.del, if_neg e]
      exact hall _ _ hi
    · intro D hD hn i B hi
      have e : i ≠ b := by
        rintro rfl
        rw [hn i (by rw [put_same]; intro q; cases q)] at hi
        cases hi
      simp only [Mem.del, if_neg e]
      exact hD _ _ hi
theorem i64s_len (ns : List Nat) : (i64s ns).length = ns.length := by unfold i64s; rw [List.length_map]
theorem i64s_at {ns : List Nat} {i : Nat} (h : i < ns.length) : (ints (i64s ns))[i]? = some (.int .i64 ((ns.getD i 0 : Nat) : Int)) := by
  rw [ints_get]
  unfold i64s
  rw [List.getElem?_map, List.getElem?_eq_getElem h, List.getD_eq_getElem?_getD, List.getElem?_eq_getElem h]; rfl
theorem i64s_dcr {ns : List Nat} {c : Nat} (h0 : ns.getD c 0 ≠ 0) : (ints (i64s ns)).set c (.int .i64 (((ns.getD c 0 : Nat) : Int) - 1)) = ints (i64s (dcr ns c)) := by
  rw [ints_set]
  unfold i64s dcr
  rw [List.map_set, show ((ns.getD c 0 : Nat) : Int) - 1 = ((ns.getD c 0 - 1 : Nat) : Int) by omega]
theorem nats_i64s (ns : List Nat) : natsV ns = ints (i64s ns) := by simp [natsV, ints, i64s]
/-- What a sum of k letters makes with the first letters. -/
def arrQ : Nat → List Nat → Nat → List (List UInt8)
  | 0, _, _ => []
  | k + 1, ns, n => arrP k ns n
theorem arrQ_s (k : Nat) (ns : List Nat) (n : Nat) : arrQ (k + 1) ns n = arrP k ns n := rfl
theorem at_inV {L : List Value} {j : Nat} {v : Value} (h : L[j]? = some v) (hj : j < L.length) : L[j] = v := by
  rw [List.getElem?_eq_getElem hj] at h
  exact Option.some.inj h
theorem arrQ_zero (k : Nat) (ns : List Nat) : arrQ k ns 0 = [] := by cases k <;> rfl
theorem arrQ_skip {k : Nat} {ns : List Nat} {n : Nat} (h : ns.getD n 0 = 0) : arrQ k ns (n + 1) = arrQ k ns n := by
  cases k with
  | zero => rfl
  | succ k => rw [arrQ_s, arrQ_s, arrP_succ, if_pos h, List.append_nil]
theorem getD_le_sum {ns : List Nat} (h : ns.length = 5) (i : Nat) : ns.getD i 0 ≤ ns.sum := by
  obtain ⟨x0, x1, x2, x3, x4, rfl⟩ := five h
  simp only [List.sum_cons, List.sum_nil]
  rcases i with _ | _ | _ | _ | _ | i
  · show x0 ≤ _; omega
  · show x1 ≤ _; omega
  · show x2 ≤ _; omega
  · show x3 ≤ _; omega
  · show x4 ≤ _; omega
  · exact Nat.zero_le _
theorem arr_bd {ns : List Nat} (h : ns.sum ≤ 8) : (arrA ns).1 ≤ 40320 := by
  have h1 := (foldA_fine ns (1, 0) (Nat.le_refl 1)).1
  have h2 := (foldA_fine ns (1, 0) (Nat.le_refl 1)).2
  refine Nat.le_trans h1 (Nat.le_trans (fact_le (m := 8) ?_) (Nat.le_of_eq (show fact 8 = 40320 by decide)))
  rw [h2]; simp only; omega
theorem arrF_bd {k : Nat} {ns : List Nat} (h5 : ns.length = 5) (hs : ns.sum = k) (hk : k ≤ 8) : 1 ≤ (arrF k ns).length ∧ (arrF k ns).length ≤ 40320 := by
  obtain ⟨x, l, hx, _⟩ := arrF_head k ns h5 hs
  refine ⟨by rw [hx]; simp, ?_⟩
  rw [arrF_len k ns h5 hs hk]
  exact arr_bd (by omega)
theorem arrP_bd {k : Nat} {ns : List Nat} (h5 : ns.length = 5) (hs : ns.sum = k + 1) (hk : k + 1 ≤ 8) (n : Nat) : (arrP k ns n).length ≤ n * 40320 := by
  by_cases hn : n ≤ 5
  · induction n with
    | zero => exact Nat.zero_le _
    | succ n ih =>
      have h1 := ih (by omega)
      rw [arrP_succ, List.length_append, Nat.succ_mul]
      by_cases h0 : ns.getD n 0 = 0
      · rw [if_pos h0, List.length_nil]; exact Nat.le_trans h1 (Nat.le_add_right _ _)
      · rw [if_neg h0, List.length_map]
        have hd := dcr_sum h5 (show n < 5 by omega) h0
        have h2 := (arrF_bd (k := k) ((dcr_len ns n).trans h5) (by omega) (by omega)).2
        exact Nat.add_le_add h1 h2
  · have h6 : ∀ m, (arrP k ns (5 + m)).length = (arrP k ns 5).length := fun m => by
      induction m with
      | zero => rfl
      | succ m ih =>
        rw [show 5 + (m + 1) = (5 + m) + 1 by omega, arrP_succ, if_pos, List.append_nil, ih]
        rw [List.getD_eq_getElem?_getD, List.getElem?_eq_none (by omega)]; rfl
    have h7 := h6 (n - 5)
    rw [show 5 + (n - 5) = n by omega] at h7
    have h8 := (arrF_bd (k := k + 1) h5 hs hk).2
    rw [arrF_succ] at h8
    omega
theorem clone5_does (v : Value) (zs : List Int) (M : Mem) (R : Value → Mem → Prop) (hv : Rd M v (ints zs)) (hl : zs.length = 5) (h : ∀ b c M', M b = none → 5 ≤ c → M' = M.put b (.cells true (ints zs) c) → R (.slice (some ⟨b, 0, none⟩) 5 c) M') : Does Tryz.prog 115 [v] M R := by
  refine does_fn tab_ok Tryz.func115 rfl (by kernel_rfl) (by kernel_rfl) Tryz.ntmps115 Tryz.results115 rfl ?_
  have hne : 1 ≤ (ints zs).length := by rw [ints_length, hl]; omega
  have hsrc := rd_srcL hv hne
  obtain ⟨a, c, rfl, ha⟩ := hv.opened
  rw [ints_length] at ha hsrc ⊢
  rcases ha with h0 | ⟨b, o, rfl, ha⟩
  · omega
  simp (disch := omega)
  intro b6 hb6
  have o0 := Own.new (M := M) (xs := ints []) (n := 0) (c := 0) hb6 rfl (Nat.le_refl 0)
  have hs1 := src_subV hsrc ((Sub.refl M).put hb6 (.cells true [] 0))
  dsimp only
  have e0 : ints [] = [] := rfl
  rw [e0] at o0
  generalize M.put b6 (.cells true [] 0) = N at *
  generalize Value.slice (some ⟨b6, 0, none⟩) 0 0 = e at *
  simp (disch := omega)
  refine app_own o0 (Sub.refl _) hs1 rfl rfl (by omega) (flat_intsV zs) (by rw [ints_length]; simp only [List.length_nil]; omega) ?_
  intro v' M'' N'' o' hs'
  simp (disch := omega)
  rw [List.nil_append] at o'
  rcases o' with ⟨_, e, _⟩ | ⟨b, c, rfl, hb, hc, rfl⟩
  · have := congrArg List.length e
    rw [ints_length, hl] at this
    simp at this
  · rw [ints_length, hl] at hc ⊢
    exact ret_sub hs' (h b c _ hb hc rfl)
theorem l01Own5_does (v : Value) (zs : List Int) (M : Mem) (R : Value → Mem → Prop) (hv : Rd M v (ints zs)) (hl : zs.length = 5) (h : ∀ b c M', M b = none → 5 ≤ c → M' = M.put b (.cells true (ints zs) c) → R (.slice (some ⟨b, 0, none⟩) 5 c) M') : Does Tryz.prog 116 [v] M R := by
  refine does_fn tab_ok Tryz.func116 rfl (by kernel_rfl) (by kernel_rfl) Tryz.ntmps116 Tryz.results116 rfl ?_
  have hne : 1 ≤ (ints zs).length := by rw [ints_length, hl]; omega
  have hsrc := rd_srcL hv hne
  simp (disch := omega)
  intro b6 hb6
  have o0 := Own.new (M := M) (xs := ints []) (n := 0) (c := 0) hb6 rfl (Nat.le_refl 0)
  have hs1 := src_subV hsrc ((Sub.refl M).put hb6 (.cells true [] 0))
  dsimp only
  have e0 : ints [] = [] := rfl
  rw [e0] at o0
  generalize M.put b6 (.cells true [] 0) = N at *
  generalize Value.slice (some ⟨b6, 0, none⟩) 0 0 = e at *
  simp (disch := omega)
  refine app_own o0 (Sub.refl _) hs1 rfl rfl (by omega) (flat_intsV zs) (by rw [ints_length]; simp only [List.length_nil]; omega) ?_
  intro v' M'' N'' o' hs'
  simp (disch := omega)
  rw [List.nil_append] at o'
  rcases o' with ⟨_, e, _⟩ | ⟨b, c, rfl, hb, hc, rfl⟩
  · have := congrArg List.length e
    rw [ints_length, hl] at this
    simp at this
  · rw [ints_length, hl] at hc ⊢
    exact ret_sub hs' (h b c _ hb hc rfl)
theorem arranged_does : ∀ (k : Nat) (ns : List Nat) (v : Value) (M : Mem) (R : Value → Mem → Prop), ns.length = 5 → ns.sum = k → k ≤ 8 → Rd M v (ints (i64s ns)) → (∀ v' M', Own M v' (strs (arrF k ns)) M' → R v' M') → Does Tryz.prog 69 [v] M R := by
  intro k
  induction k using Nat.strongRecOn with
  | ind k ih => ?_
  intro ns v M R h5 hs hk hv h
  obtain ⟨a, c, rfl, ha⟩ := hv.opened
  have hl : (ints (i64s ns)).length = 5 := by rw [ints_length, i64s_len]; exact h5
  rw [hl] at ha ⊢
  rcases ha with h0 | ⟨b, o, rfl, ha⟩
  · omega
  have hat : ∀ i, i < 5 → M.get? b (o + i) = some (.int .i64 ((ns.getD i 0 : Nat) : Int)) := fun i hi => by
    rw [ha i hi, i64s_at (by omega)]
  rw [hl] at hv
  refine does_fn tab_ok Tryz.func69 rfl (by kernel_rfl) (by kernel_rfl) Tryz.ntmps69 Tryz.results69 rfl ?_
  simp (disch := omega)
  refine loop_to tab_ok [3, 4, 5, 6, 8, 11, 12, 13, 14, 15, 16, 17, 18, 19, 20, 21, 22, 23, 24, 25, 26, 27, 28, 29, 30, 31, 32, 33, 34, 35, 36, 37, 38, 39, 40, 41] (fun x : Nat × Value => [(11, .int .i64 (x.1 : Nat)), (3, x.2)]) (fun x N => x.1 ≤ 5 ∧ ((arrQ k ns x.1) = [] → x.2 = .slice none 0 0) ∧ ∃ Mb, Sub M Mb ∧ Own Mb x.2 (strs (arrQ k ns x.1)) N) (fun x => 5 - x.1) (0, .slice none 0 0) (by kernel_rfl) (by simp (disch := omega)) ⟨by simp only; omega, fun _ => rfl, M, Sub.refl _, by simp only; rw [arrQ_zero]; exact Own.nil _⟩ ?_
  rintro ⟨i, vo⟩ N g ⟨hi, hn, Mb, sB, oo⟩
  simp only at hi hn oo
  have sN := sB.trans oo.sub
  by_cases hlt : i < 5
  · have hg := sub_getk (hat i hlt) sN
    by_cases h0 : ns.getD i 0 = 0
    · rw [h0] at hg
      simp (disch := omega) [hg]
      refine Rnd.mk' (i + 1, vo) (by simp only; omega) (by (repeat (first | exact km | refine kp rfl ?_ | refine km' rfl ?_))) (by simp (disch := omega)) ⟨by simp only; omega, ?_, Mb, sB, ?_⟩
      · simp only; rw [arrQ_skip h0]; exact hn
      · simp only; rw [arrQ_skip h0]; exact oo
    · obtain ⟨k, rfl⟩ : ∃ k', k = k' + 1 := ⟨k - 1, by have := getD_le_sum h5 i; omega⟩
      have hd := dcr_sum h5 hlt h0
      have hset := i64s_dcr h0
      have hgl : ns.getD i 0 ≤ 8 := Nat.le_trans (getD_le_sum h5 i) (by omega)
      have hgz : (ints (i64s ns))[i]? = some (.int .i64 ((ns.getD i 0 : Nat) : Int)) := i64s_at (by omega)
      have hQ : arrQ (k + 1) ns (i + 1) = arrQ (k + 1) ns i ++ (arrF k (dcr ns i)).map (ltr i :: ·) := by
        rw [arrQ_s, arrQ_s, arrP_succ, if_neg h0]
      have hQl : (arrQ (k + 1) ns i).length ≤ 5 * 40320 := Nat.le_trans (arrP_bd h5 hs hk i) (by omega)
      have hFm : ∀ x ∈ arrF k (dcr ns i), x.length ≤ 8 := fun x hx => by
        have := (arrF_mem k _ ((dcr_len ns i).trans h5) (by omega) x hx).1
        omega
      have hFb := arrF_bd (k := k) ((dcr_len ns i).trans h5) (by omega) (by omega)
      have hIH := ih k (by omega) (dcr ns i)
      have h5d := (dcr_len ns i).trans h5
      have hsd : (dcr ns i).sum = k := by omega
      generalize hnv : ns.getD i 0 = n at *
      have hn0I : ¬ (n : Int) = 0 := by omega
      simp (disch := omega) [hg, h0, hn0I]
      refine clone5_does _ (i64s ns) _ _ (hv.sub sN) (by rw [i64s_len]; exact h5) ?_
      rintro b1 c1 N1 hb1 hc1 rfl
      have o1 : Own N (.slice (some ⟨b1, 0, none⟩) 5 c1) (ints (i64s (dcr ns i))) (N.put b1 (.cells true (ints (i64s (dcr ns i))) c1)) := Own.new hb1 (by rw [ints_length, i64s_len]; exact h5d) hc1
      have hil : i < (ints (i64s ns)).length := by omega
      have hgz2 := at_inV hgz hil
      have hil5 : i < (i64s ns).length := by rw [i64s_len]; omega
      simp (disch := omega) [hgz, hgz2, hil5, set_is, hset]
      rw [put_put]
      refine hIH _ _ _ h5d hsd (by omega) o1.rd ?_
      intro v3 N3 o3
      have hsN3 : Sub N N3 := o1.sub.trans o3.sub
      obtain ⟨D, rD, sD, dD⟩ := own_alone o3
      obtain ⟨Mb2, N2, oo2, sN2, sMM, hDo⟩ := own_over oo hsN3
      have sDM := hDo D sD (fun j hj => dD j (by
        intro q
        cases hNj : N j with
        | none => exact hj hNj
        | some B => have := o1.sub _ _ hNj; rw [q] at this; cases this))
      generalize arrF k (dcr ns i) = rs at *
      obtain ⟨a3, c3, rfl, ha3⟩ := rD.opened
      rw [strs_length] at ha3 ⊢
      rcases ha3 with h0' | ⟨b3, o3', rfl, ha3⟩
      · omega
      clear o3 rD
      simp (disch := omega)
      refine loop_to tab_ok [3, 8, 29, 30, 31, 32, 33, 34, 35, 36, 37, 38, 39, 40] (fun x : Nat × Value => [(29, .int .i64 (x.1 : Nat)), (3, x.2)]) (fun x N' => x.1 ≤ rs.length ∧ ∃ No, Own Mb2 x.2 (strs (arrQ (k + 1) ns i ++ (rs.take x.1).map (ltr i :: ·))) No ∧ Sub No N') (fun x => rs.length - x.1) (0, vo) (by kernel_rfl) (by simp (disch := omega)) ⟨Nat.zero_le _, N2, by simpa using oo2, sN2⟩ ?_
      rintro ⟨j, vi⟩ N' g2 ⟨hj, No, oi, si⟩
      simp only at hj oi
      by_cases hjr : j < rs.length
      · have hg3 := ha3 j hjr
        rw [strs_get, List.getElem?_eq_getElem hjr] at hg3
        have hg3 := sub_getk hg3 ((sDM.trans oi.sub).trans si)
        have hst : (rs.take (j + 1)).map (ltr i :: ·) = (rs.take j).map (ltr i :: ·) ++ [ltr i :: rs[j]] := by rw [take_snoc rs hjr, List.map_append]; rfl
        have hbd : (arrQ (k + 1) ns i ++ (rs.take j).map (ltr i :: ·)).length ≤ 300000 := by rw [List.length_append, List.length_map, List.length_take]; omega
        have hx8 := hFm _ (List.getElem_mem hjr)
        have hTs : arrQ (k + 1) ns i ++ (rs.take (j + 1)).map (ltr i :: ·) = arrQ (k + 1) ns i ++ (rs.take j).map (ltr i :: ·) ++ [ltr i :: rs[j]] := by rw [hst, List.append_assoc]
        generalize hT : arrQ (k + 1) ns i ++ (rs.take j).map (ltr i :: ·) = T at *
        generalize rs[j] = u at *
        simp (disch := omega) [hg3]
        refine letterN_does i _ _ (by omega) ?_
        have hcon : ltr i :: u = [ltr i] ++ u := rfl
        generalize ltr i = q at *
        simp (disch := omega)
        intro b' hb'
        simp (disch := omega)
        refine app_own oi (si.trans ((Sub.refl _).put hb' _)) (by simp (disch := omega); rfl) rfl rfl (by omega) (by simp (disch := omega)) (by simp (disch := omega); omega) ?_
        intro v' M'' N'' o' s'
        rw [strs_snoc] at o'
        simp (disch := omega)
        refine Rnd.mk' (j + 1, v') (by simp only; omega) (by (repeat (first | exact km | refine kp rfl ?_ | refine km' rfl ?_))) (by simp (disch := omega)) ⟨by simp only; omega, M'', ?_, s'⟩
        simp only
        rw [List.map_take] at hTs
        first | (rw [hTs]; exact o') | (rw [List.map_take, hTs]; exact o')
      · have hjE : j = rs.length := by omega
        subst hjE
        rw [List.take_length, ← hQ] at oi
        simp (disch := omega)
        refine Rnd.mk'' No (i + 1, vi) si (by simp only; omega) (by (repeat (first | exact km | refine kp rfl ?_ | refine km' rfl ?_))) (by simp (disch := omega)) ⟨by simp only; omega, fun q => ?_, Mb2, sB.trans sMM, oi⟩
        simp only at q
        rw [hQ] at q
        have := congrArg List.length q
        rw [List.length_append, List.length_map, List.length_nil] at this
        omega
  · have hi' : i = 5 := by omega
    subst hi'
    cases k with
    | zero =>
      rw [hn rfl]
      simp (disch := omega)
      intro b1 hb1
      simp (disch := omega)
      obtain ⟨M2, o2, s2⟩ := (Own.new (M := N) (xs := strs [[]]) hb1 rfl (Nat.le_refl 1)).base sN
      exact ret_sub s2 (h _ _ o2)
    | succ k =>
      rw [arrQ_s, ← arrF_succ] at oo
      have hF := (arrF_bd (k := k + 1) h5 hs hk).1
      obtain ⟨M2, o2, s2⟩ := oo.base sB
      generalize arrF (k + 1) ns = F at *
      rcases oo with ⟨_, e, _⟩ | ⟨b1, c1, rfl, hb1, hc1, rfl⟩
      · have := congrArg List.length e
        rw [strs_length, List.length_nil] at this
        omega
      · rw [strs_length] at o2
        simp (disch := omega)
        exact ret_sub s2 (h _ _ o2)
/-- Are the first numbers zero? -/
def zerosTo (ns : List Nat) (n : Nat) : Bool := (List.range n).all fun i => ns.getD i 0 == 0
theorem zerosTo_succ (ns : List Nat) (n : Nat) : zerosTo ns (n + 1) = (zerosTo ns n && (ns.getD n 0 == 0)) := by simp [zerosTo, List.range_succ]
theorem zerosTo_five {ns : List Nat} (h : ns.length = 5) : zerosTo ns 5 = (ns.sum == 0) := by
  obtain ⟨x0, x1, x2, x3, x4, rfl⟩ := five h
  rw [Bool.eq_iff_iff, beq_iff_eq]
  simp [zerosTo, List.range, List.range.loop]
theorem l07Words_does : ∀ (k : Nat) (ns : List Nat) (w : List UInt8) (v : Value) (M : Mem) (R : Value → Mem → Prop), ns.length = 5 → ns.sum = k → k ≤ 8 → w.length ≤ 100 - k → Rd M v (ints (i64s ns)) → (∀ v' M', Own M v' (strs ((arrF k ns).map (w ++ ·))) M' → R v' M') → Does Tryz.prog 72 [str w, v] M R := by
  intro k
  induction k using Nat.strongRecOn with
  | ind k ih => ?_
  intro ns w v M R h5 hs hk hwl hv h
  obtain ⟨a, c, rfl, ha⟩ := hv.opened
  have hl : (ints (i64s ns)).length = 5 := by rw [ints_length, i64s_len]; exact h5
  rw [hl] at ha ⊢
  rcases ha with h0 | ⟨b, o, rfl, ha⟩
  · omega
  have hat : ∀ i, i < 5 → M.get? b (o + i) = some (.int .i64 ((ns.getD i 0 : Nat) : Int)) := fun i hi => by
    rw [ha i hi, i64s_at (by omega)]
  rw [hl] at hv
  refine does_fn tab_ok Tryz.func72 rfl (by kernel_rfl) (by kernel_rfl) Tryz.ntmps72 Tryz.results72 rfl ?_
  simp (disch := omega)
  intro b0 hb0
  simp (disch := omega)
  refine loop_to tab_ok [5, 6, 7, 8, 10, 11, 12, 13, 14, 15, 16, 17, 18, 19, 20, 21, 22, 23, 24, 25, 26, 27, 28, 29, 30, 31, 32, 33, 34] (fun x : Nat × Value => [(7, .int .i64 (x.1 : Nat)), (5, x.2), (6, .bool (zerosTo ns x.1))]) (fun x N => x.1 ≤ 5 ∧ ∃ Mb, Sub M Mb ∧ Own Mb x.2 (strs ((arrQ k ns x.1).map (w ++ ·))) N) (fun x => 5 - x.1) (0, .slice (some ⟨b0, 0, none⟩) 0 0) (by kernel_rfl) (by simp (disch := omega); rfl) ⟨by simp only; omega, M, Sub.refl _, by simp only; rw [arrQ_zero]; exact Own.new hb0 rfl (Nat.le_refl 0)⟩ ?_
  rintro ⟨i, vo⟩ N g ⟨hi, Mb, sB, oo⟩
  simp only at hi oo
  have sN := sB.trans oo.sub
  by_cases hlt : i < 5
  · have hg := sub_getk (hat i hlt) sN
    by_cases h0 : ns.getD i 0 = 0
    · have hz : zerosTo ns (i + 1) = zerosTo ns i := by rw [zerosTo_succ, h0]; simp
      rw [h0] at hg
      simp (disch := omega) [hg]
      refine Rnd.mk' (i + 1, vo) (by simp only; omega) (by (repeat (first | exact km | refine kp rfl ?_ | refine km' rfl ?_))) (by simp (disch := omega) [hz]) ⟨by simp only; omega, Mb, sB, ?_⟩
      simp only; rw [arrQ_skip h0]; exact oo
    · obtain ⟨k, rfl⟩ : ∃ k', k = k' + 1 := ⟨k - 1, by have := getD_le_sum h5 i; omega⟩
      have hz : zerosTo ns (i + 1) = false := by rw [zerosTo_succ, beq_eq_false_iff_ne.2 h0, Bool.and_false]
      have hd := dcr_sum h5 hlt h0
      have hset := i64s_dcr h0
      have hgl : ns.getD i 0 ≤ 8 := Nat.le_trans (getD_le_sum h5 i) (by omega)
      have hgz : (ints (i64s ns))[i]? = some (.int .i64 ((ns.getD i 0 : Nat) : Int)) := i64s_at (by omega)
      have hQ : (arrQ (k + 1) ns (i + 1)).map (w ++ ·) = (arrQ (k + 1) ns i).map (w ++ ·) ++ (arrF k (dcr ns i)).map ((w ++ [ltr i]) ++ ·) := by
        rw [arrQ_s, arrQ_s, arrP_succ, if_neg h0, List.map_append, List.map_map]
        congr 1
        refine List.map_congr_left fun x _ => ?_
        simp
      have hQl : ((arrQ (k + 1) ns i).map (w ++ ·)).length ≤ 5 * 40320 := by rw [List.length_map]; exact Nat.le_trans (arrP_bd h5 hs hk i) (by omega)
      have hFb := arrF_bd (k := k) ((dcr_len ns i).trans h5) (by omega) (by omega)
      have hIH := ih k (by omega) (dcr ns i) (w ++ [ltr i])
      have h5d := (dcr_len ns i).trans h5
      have hsd : (dcr ns i).sum = k := by omega
      generalize hnv : ns.getD i 0 = n at *
      have hn0I : ¬ (n : Int) = 0 := by omega
      simp (disch := omega) [hg, h0, hn0I]
      refine l01Own5_does _ (i64s ns) _ _ (hv.sub sN) (by rw [i64s_len]; exact h5) ?_
      rintro b1 c1 N1 hb1 hc1 rfl
      have o1 : Own N (.slice (some ⟨b1, 0, none⟩) 5 c1) (ints (i64s (dcr ns i))) (N.put b1 (.cells true (ints (i64s (dcr ns i))) c1)) := Own.new hb1 (by rw [ints_length, i64s_len]; exact h5d) hc1
      have hil : i < (ints (i64s ns)).length := by omega
      have hgz2 := at_inV hgz hil
      have hil5 : i < (i64s ns).length := by rw [i64s_len]; omega
      simp (disch := omega) [hgz, hgz2, hil5, set_is, hset]
      rw [put_put]
      refine l01Letter_does i _ _ (by omega) ?_
      simp (disch := omega)
      refine hIH _ _ _ h5d hsd (by omega) (by rw [List.length_append, List.length_singleton]; omega) o1.rd ?_
      intro v3 N3 o3
      have hsN3 : Sub N N3 := o1.sub.trans o3.sub
      have r3 := o3.rd
      have hne3 : 1 ≤ (strs ((arrF k (dcr ns i)).map ((w ++ [ltr i]) ++ ·))).length := by rw [strs_length, List.length_map]; exact hFb.1
      have src3 := rd_srcL r3 hne3
      have hal : ((arrF k (dcr ns i)).map ((w ++ [ltr i]) ++ ·)).length ≤ 40320 := by rw [List.length_map]; exact hFb.2
      obtain ⟨M2, o2, s2⟩ := oo.base (Sub.refl Mb)
      generalize (arrF k (dcr ns i)).map ((w ++ [ltr i]) ++ ·) = A at *
      generalize (arrQ (k + 1) ns i).map (w ++ ·) = Q at *
      simp (disch := omega)
      refine app_own oo hsN3 src3 rfl rfl (by omega) (flat_strsV _) (by rw [strs_length, strs_length]; omega) ?_
      intro v' M'' N'' o' s'
      simp (disch := omega)
      refine Rnd.mk'' M'' (i + 1, v') s' (by simp only; omega) (by (repeat (first | exact km | refine kp rfl ?_ | refine km' rfl ?_))) (by simp (disch := omega) [hz]) ⟨by simp only; omega, Mb, sB, ?_⟩
      simp only
      rw [hQ]
      have e : strs (Q ++ A) = strs Q ++ strs A := List.map_append
      rw [e]
      exact o'
  · have hi' : i = 5 := by omega
    subst hi'
    have hz := zerosTo_five h5
    rw [hs] at hz
    cases k with
    | zero =>
      have hz2 : zerosTo ns 5 = true := hz
      simp (disch := omega) [hz2]
      intro b1 hb1
      simp (disch := omega)
      obtain ⟨M2, o2, s2⟩ := (Own.new (M := N) (xs := strs [w]) hb1 rfl (Nat.le_refl 1)).base sN
      refine ret_sub s2 (h _ _ ?_)
      have e : (arrF 0 ns).map (w ++ ·) = [w] := by simp [arrF]
      rw [e]
      exact o2
    | succ k =>
      have hz2 : zerosTo ns 5 = false := hz
      rw [arrQ_s, ← arrF_succ] at oo
      obtain ⟨M2, o2, s2⟩ := oo.base sB
      simp (disch := omega) [hz2]
      exact ret_sub s2 (h _ _ o2)
def inV (z : Int) : Bool := decide (0 ≤ z ∧ z ≤ 8)
def wwOk (zs : List Int) : Bool := decide (zs.length = 5) && zs.all inV
def nsOf (zs : List Int) : List Nat := zs.map Int.toNat
/-- The code of a vector, and the words with it. -/
def wwC (zs : List Int) : Int := if wwOk zs then (if 8 < (nsOf zs).sum then 2 else if 300 < (arrA (nsOf zs)).1 then 3 else 0) else 2
def wwL (zs : List Int) : List (List UInt8) := if wwC zs = 0 then arrF (nsOf zs).sum (nsOf zs) else []
theorem nsOf_len (zs : List Int) : (nsOf zs).length = zs.length := by unfold nsOf; rw [List.length_map]
theorem nsOf_i64 {zs : List Int} (h : zs.all inV = true) : i64s (nsOf zs) = zs := by
  unfold i64s nsOf
  rw [List.map_map]
  conv => rhs; rw [← List.map_id zs]
  refine List.map_congr_left fun z hz => ?_
  have := List.all_eq_true.1 h z hz
  unfold inV at this
  have := of_decide_eq_true this
  simp only [Function.comp, id]
  omega
theorem nsOf_at {zs : List Int} (h : zs.all inV = true) {i : Nat} (hi : i < zs.length) : zs[i] = ((nsOf zs).getD i 0 : Nat) ∧ (nsOf zs).getD i 0 ≤ 8 := by
  have h1 := List.all_eq_true.1 h _ (List.getElem_mem hi)
  unfold inV at h1
  have h1 := of_decide_eq_true h1
  have h2 : (nsOf zs).getD i 0 = zs[i].toNat := by
    unfold nsOf
    rw [List.getD_eq_getElem?_getD, List.getElem?_map, List.getElem?_eq_getElem hi]; rfl
  rw [h2]
  omega
theorem sum_take_succ (ns : List Nat) {i : Nat} (hi : i < ns.length) : (ns.take (i + 1)).sum = (ns.take i).sum + ns.getD i 0 := by
  rw [take_snoc ns hi, List.sum_append, List.getD_eq_getElem?_getD, List.getElem?_eq_getElem hi]
  simp
theorem sum_take5 {ns : List Nat} (h : ∀ i, ns.getD i 0 ≤ 8) : ∀ i, i ≤ ns.length → (ns.take i).sum ≤ i * 8
  | 0, _ => by simp
  | i + 1, hi => by
    have := sum_take5 h i (by omega)
    have := h i
    rw [sum_take_succ ns (by omega)]; omega
theorem nsOf_le {zs : List Int} (h : zs.all inV = true) (i : Nat) : (nsOf zs).getD i 0 ≤ 8 := by
  by_cases hi : i < zs.length
  · exact (nsOf_at h hi).2
  · rw [List.getD_eq_getElem?_getD, List.getElem?_eq_none (by rw [nsOf_len]; omega)]; exact Nat.zero_le _
def onV : Value → Bool
  | .int _ n => inV n
  | _ => false
theorem all_onV (zs : List Int) : (ints zs).all onV = zs.all inV := by
  unfold ints
  rw [List.all_map]
  rfl
theorem inV_tells (zs : List Int) (G : Mem → Prop) : Tells Tryz.prog (.func (.func 66) #[] #[]) (ints zs) onV G := by
  intro x hx M R _ h
  obtain ⟨z, _, rfl⟩ := mem_ints hx
  have e : onV (.int .i64 z) = inV z := rfl
  rw [e] at h
  simp (disch := omega)
  refine does_fn tab_ok Tryz.func66 rfl (by kernel_rfl) (by kernel_rfl) Tryz.ntmps66 Tryz.results66 rfl ?_
  simp (disch := omega)
  refine within_does _ _ _ _ _ ?_
  unfold inV at h
  simp (disch := omega)
  exact ret_of (by simpa using h)
theorem impl_WordsWith (v : Value) (zs : List Int) (M : Mem) (R : Value → Mem → Prop) (hv : Rd M v (ints zs)) (hl : zs.length ≤ 1099511627776) (h : ∀ v' M', Own M v' (strs (wwL zs)) M' → R (tup2 v' (wwC zs)) M') : Does Tryz.prog 11 [v] M R := by
  unfold tup2 wwL wwC at h
  obtain ⟨a, c, rfl, ha⟩ := hv.opened
  rw [ints_length] at ha hv ⊢
  refine does_fn tab_ok Tryz.func11 rfl (by kernel_rfl) (by kernel_rfl) Tryz.ntmps11 Tryz.results11 rfl ?_
  by_cases h5 : zs.length = 5
  · have h5I : (zs.length : Int) = 5 := by omega
    simp (disch := omega) [h5]
    refine areAllI_does _ _ (ints zs) onV (fun _ => True) _ _ (by rw [← h5]; exact hv) trivial stab_true (inV_tells zs _) rfl (by rw [ints_length]; omega) ?_
    rw [all_onV]
    unfold wwOk at h
    rw [decide_eq_true h5, Bool.true_and] at h
    cases hq : zs.all inV
    · rw [hq] at h
      simp (disch := omega)
      exact ret_of (h _ _ (Own.nil _))
    · rw [hq, if_pos rfl] at h
      have hle := nsOf_le hq
      have hnl := nsOf_len zs
      simp (disch := omega)
      refine loop_to tab_ok [4, 6, 17, 18, 19, 20, 21, 22, 23, 24] (fun i : Nat => [(17, .int .i64 i), (4, .int .i64 (((nsOf zs).take i).sum : Nat))]) (fun i N => M = N ∧ i ≤ 5) (fun i => 5 - i) 0 (by kernel_rfl) (by simp (disch := omega)) ⟨rfl, by omega⟩ ?_
      rintro i N g ⟨rfl, hi⟩
      have hst := sum_take5 hle i (by omega)
      by_cases hlt : i < 5
      · rcases ha with h0 | ⟨b, o, rfl, ha⟩
        · omega
        have hg := ha i (by omega)
        rw [ints_get, List.getElem?_eq_getElem (by omega), (nsOf_at hq (by omega)).1] at hg
        have hs := sum_take_succ (nsOf zs) (i := i) (by omega)
        have hli := hle i
        generalize (nsOf zs).getD i 0 = x at *
        generalize ((nsOf zs).take i).sum = s at *
        simp (disch := omega) [hg]
        refine Rnd.mk' (i + 1) (by omega) (by (repeat (first | exact km | refine kp rfl ?_ | refine km' rfl ?_))) (by simp (disch := omega) [hs]) ⟨rfl, by omega⟩
      · have hi' : i = 5 := by omega
        subst hi'
        have htk : (nsOf zs).take 5 = nsOf zs := List.take_of_length_le (by omega)
        rw [htk] at hst ⊢
        by_cases h8 : 8 < (nsOf zs).sum
        · rw [if_pos h8] at h
          have h8I : (8 : Int) < ((nsOf zs).sum : Nat) := by omega
          simp (disch := omega) [h8I]
          exact ret_of (h _ _ (Own.nil _))
        · rw [if_neg h8] at h
          have h8I : ¬ (8 : Int) < ((nsOf zs).sum : Nat) := by omega
          have hab := arr_bd (ns := nsOf zs) (by omega)
          simp (disch := omega) [h8I]
          refine arrangements_does _ (nsOf zs) _ _ (by rw [nats_i64s, nsOf_i64 hq, ← h5]; exact hv) (by omega) (by omega) ?_
          by_cases h3 : 300 < (arrA (nsOf zs)).1
          · rw [if_pos h3] at h
            have h3I : (300 : Int) < ((arrA (nsOf zs)).1 : Nat) := by omega
            simp (disch := omega) [h3I]
            exact ret_of (h _ _ (Own.nil _))
          · rw [if_neg h3, if_pos rfl] at h
            have h3I : ¬ (300 : Int) < ((arrA (nsOf zs)).1 : Nat) := by omega
            simp (disch := omega) [h3I]
            refine arranged_does _ (nsOf zs) _ _ _ (by omega) rfl (by omega) (by rw [nsOf_i64 hq, ← h5]; exact hv) ?_
            intro v' M' o'
            simp (disch := omega)
            exact ret_of (h _ _ o')
  · have h5I : ¬ (zs.length : Int) = 5 := by omega
    unfold wwOk at h
    rw [decide_eq_false h5, Bool.false_and] at h
    simp (disch := omega) [h5, h5I]
    exact ret_of (h _ _ (Own.nil _))
theorem spec_WordsWith (v : Value) (zs : List Int) (M : Mem) (R : Value → Mem → Prop) (hv : Rd M v (ints zs)) (hl : zs.length ≤ 1099511627776) (h : ∀ v' M', Own M v' (strs (wwL zs)) M' → R (tup2 v' (wwC zs)) M') : Does Tryz.prog 12 [v] M R := by
  unfold tup2 wwL wwC at h
  obtain ⟨a, c, rfl, ha⟩ := hv.opened
  rw [ints_length] at ha hv ⊢
  refine does_fn tab_ok Tryz.func12 rfl (by kernel_rfl) (by kernel_rfl) Tryz.ntmps12 Tryz.results12 rfl ?_
  by_cases h5 : zs.length = 5
  · have h5I : (zs.length : Int) = 5 := by omega
    unfold wwOk at h
    rw [decide_eq_true h5, Bool.true_and] at h
    simp (disch := omega) [h5]
    refine loop_to tab_ok [2, 3, 4, 5, 9, 10, 11, 12, 13, 14, 15, 16, 17, 18, 19, 20, 21, 22, 23, 24, 25, 26] (fun i : Nat => [(5, .int .i64 i), (4, .int .i64 (((nsOf zs).take i).sum : Nat))]) (fun i N => M = N ∧ i ≤ 5 ∧ (zs.take i).all inV = true ∧ ((nsOf zs).take i).sum ≤ i * 8) (fun i => 5 - i) 0 (by kernel_rfl) (by simp (disch := omega)) ⟨rfl, by omega, rfl, by simp⟩ ?_
    rintro i N g ⟨rfl, hi, hal, hst⟩
    by_cases hlt : i < 5
    · rcases ha with h0 | ⟨b, o, rfl, ha⟩
      · omega
      have hiz : i < zs.length := by omega
      have hg := ha i (by omega)
      rw [ints_get, List.getElem?_eq_getElem hiz] at hg
      have htk := take_snoc zs hiz
      have hs := sum_take_succ (nsOf zs) (i := i) (by rw [nsOf_len]; omega)
      have hgd : (nsOf zs).getD i 0 = zs[i].toNat := by
        unfold nsOf
        rw [List.getD_eq_getElem?_getD, List.getElem?_map, List.getElem?_eq_getElem hiz]; rfl
      have hmem := List.getElem_mem hiz
      have hg' := hg
      generalize zs[i] = z at *
      simp (disch := omega) [hg, h5]
      refine l01In_does z 0 8 _ _ ?_
      by_cases hz : 0 ≤ z ∧ z ≤ 8
      · rw [decide_eq_true hz]
        have hzi : inV z = true := decide_eq_true hz
        obtain ⟨x, rfl⟩ : ∃ n : Nat, z = n := ⟨z.toNat, by omega⟩
        rw [Int.toNat_natCast] at hgd
        rw [hgd] at hs
        generalize ((nsOf zs).take i).sum = s at *
        have hal2 : (zs.take (i + 1)).all inV = true := by rw [htk, List.all_append, hal]; simp [hzi]
        simp (disch := omega) [hg', h5]
        refine Rnd.mk' (i + 1) (by omega) (by (repeat (first | exact km | refine kp rfl ?_ | refine km' rfl ?_))) (by simp (disch := omega) [hs]) ⟨rfl, by omega, by first | exact hal2 | exact List.all_eq_true.1 hal2, by omega⟩
      · have hq : zs.all inV = false := List.all_eq_false.2 ⟨z, hmem, by unfold inV; rw [decide_eq_false hz]; simp⟩
        rw [hq] at h
        rw [decide_eq_false hz]
        simp (disch := omega)
        exact ret_of (h _ _ (Own.nil _))
    · have hi' : i = 5 := by omega
      subst hi'
      have htz : zs.take 5 = zs := List.take_of_length_le (by omega)
      rw [htz] at hal
      have hq := hal
      rw [hq, if_pos rfl] at h
      have hnl := nsOf_len zs
      have htk : (nsOf zs).take 5 = nsOf zs := List.take_of_length_le (by omega)
      rw [htk] at hst ⊢
      by_cases h8 : 8 < (nsOf zs).sum
      · rw [if_pos h8] at h
        have h8I : (8 : Int) < ((nsOf zs).sum : Nat) := by omega
        simp (disch := omega) [h8I, h5]
        exact ret_of (h _ _ (Own.nil _))
      · rw [if_neg h8] at h
        have h8I : ¬ (8 : Int) < ((nsOf zs).sum : Nat) := by omega
        have hab := arr_bd (ns := nsOf zs) (by omega)
        simp (disch := omega) [h8I, h5]
        refine l07Number_does _ (nsOf zs) _ _ (by rw [nats_i64s, nsOf_i64 hq, ← h5]; exact hv) (by omega) (by omega) ?_
        by_cases h3 : 300 < (arrA (nsOf zs)).1
        · rw [if_pos h3] at h
          have h3I : (300 : Int) < ((arrA (nsOf zs)).1 : Nat) := by omega
          simp (disch := omega) [h3I]
          exact ret_of (h _ _ (Own.nil _))
        · rw [if_neg h3, if_pos rfl] at h
          have h3I : ¬ (300 : Int) < ((arrA (nsOf zs)).1 : Nat) := by omega
          simp (disch := omega) [h3I]
          refine l07Words_does _ (nsOf zs) [] _ _ _ (by omega) rfl (by omega) (Nat.zero_le _) (by rw [nsOf_i64 hq, ← h5]; exact hv) ?_
          intro v' M' o'
          have e : (arrF (nsOf zs).sum (nsOf zs)).map ([] ++ ·) = arrF (nsOf zs).sum (nsOf zs) := by simp
          rw [e] at o'
          simp (disch := omega)
          exact ret_of (h _ _ o')
  · have h5I : ¬ (zs.length : Int) = 5 := by omega
    unfold wwOk at h
    rw [decide_eq_false h5, Bool.false_and] at h
    simp (disch := omega) [h5, h5I]
    exact ret_of (h _ _ (Own.nil _))
end Go.Proofs.YthpcojnpiggaiaaGreat

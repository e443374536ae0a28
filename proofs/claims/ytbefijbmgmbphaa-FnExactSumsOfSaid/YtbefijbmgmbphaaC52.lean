/- Contracts: slices.Compact of numbers, walked. -/
import Derived.Test.YtbefijbmgmbphaaM9
import Derived.Test.YtbefijbmgmbphaaC39
namespace Go.Proofs.Ytbefijbmgmbphaa
open Go
set_option linter.unusedSimpArgs false
set_option linter.unusedVariables false

/-- What is kept of the first m numbers. -/
def cuI (zs : List Int) (m : Nat) : List Int := Lib.compactUpTo zs.toArray m
theorem cuI_zero (zs : List Int) : cuI zs 0 = [] := rfl
theorem arr_get {zs : List Int} {i : Nat} (h : i < zs.length) : zs.toArray[i]! = zs[i] := by
  rw [getElem!_pos _ i (by simpa using h)]; simp
theorem cuI_one {zs : List Int} (h : 0 < zs.length) : cuI zs 1 = zs.take 1 := by
  unfold cuI
  rw [Lib.compactUpTo_succ, arr_get h]
  have e : Lib.keeps zs.toArray 0 = true := by simp [Lib.keeps]
  rw [e, if_pos rfl, take_snoc zs h]; rfl
theorem cuI_yes {zs : List Int} {m : Nat} (h0 : 0 < m) (h : m < zs.length) (hne : zs[m] ≠ zs[m - 1]'(by omega)) : cuI zs (m + 1) = cuI zs m ++ [zs[m]] := by
  unfold cuI
  rw [Lib.compactUpTo_succ]
  have e : Lib.keeps zs.toArray m = true := by
    simp only [Lib.keeps, decide_eq_true_eq]
    right
    rw [arr_get h, arr_get (show m - 1 < zs.length by omega)]
    exact hne
  rw [e, if_pos rfl, arr_get h]
theorem cuI_no {zs : List Int} {m : Nat} (h0 : 0 < m) (h : m < zs.length) (he : zs[m] = zs[m - 1]'(by omega)) : cuI zs (m + 1) = cuI zs m := by
  unfold cuI
  rw [Lib.compactUpTo_succ]
  have e : Lib.keeps zs.toArray m = false := by
    simp only [Lib.keeps, decide_eq_false_iff_not]
    rintro (h1 | h1)
    · omega
    · rw [arr_get h, arr_get (show m - 1 < zs.length by omega)] at h1
      exact h1 he
  rw [e]; simp
theorem cuI_le (zs : List Int) : ∀ m, (cuI zs m).length ≤ m
  | 0 => Nat.le_refl 0
  | m + 1 => by
    have := cuI_le zs m
    unfold cuI at *
    rw [Lib.compactUpTo_succ, List.length_append]
    split <;> simp <;> omega
theorem cuI_all (zs : List Int) : cuI zs zs.length = Lib.compact zs := rfl
/-- The cells on the way: what is kept, then what stood there. -/
def mixI (zs : List Int) (m : Nat) : List Int := cuI zs m ++ zs.drop (cuI zs m).length
theorem mixI_len {zs : List Int} {m : Nat} (h : m ≤ zs.length) : (mixI zs m).length = zs.length := by
  have := cuI_le zs m
  unfold mixI
  rw [List.length_append, List.length_drop]; omega
theorem mixI_get {zs : List Int} {m i : Nat} (h : (cuI zs m).length ≤ i) : (mixI zs m)[i]? = zs[i]? := by
  unfold mixI
  rw [List.getElem?_append_right h, List.getElem?_drop]
  congr 1; omega
theorem mixI_no {zs : List Int} {m : Nat} (h : cuI zs (m + 1) = cuI zs m) : mixI zs (m + 1) = mixI zs m := by unfold mixI; rw [h]
theorem mixI_set {zs : List Int} {m : Nat} {z : Int} (h : cuI zs (m + 1) = cuI zs m ++ [z]) (hm : m < zs.length) : (mixI zs m).set (cuI zs m).length z = mixI zs (m + 1) := by
  have hle := cuI_le zs m
  unfold mixI
  rw [h, List.set_append_right _ _ (Nat.le_refl _), Nat.sub_self, List.drop_eq_getElem_cons (show (cuI zs m).length < zs.length by omega), List.set_cons_zero, List.length_append, List.length_singleton, List.append_assoc]
  rfl
theorem mixI_take {zs : List Int} {k : Nat} (h : cuI zs k = zs.take k) (hk : k ≤ zs.length) : mixI zs k = zs := by
  unfold mixI
  rw [h, List.length_take, Nat.min_eq_left hk, List.take_append_drop]
theorem compactI_does (v : Value) (zs : List Int) (M0 M : Mem) (R : Value → Mem → Prop) (ho : Own M0 v (ints zs) M) (hl : zs.length ≤ 1000000)
    (h : ∀ v' M', Own M0 v' (ints (Lib.compact zs)) M' → R v' M') : Does Try.prog 121 [v] M R := by
  rcases ho with ⟨rfl, he, rfl⟩ | ⟨b, c, rfl, hb, hc, rfl⟩
  · have hss : zs = [] := by
      have := congrArg List.length he
      rw [ints_length] at this
      exact List.eq_nil_of_length_eq_zero this
    subst hss
    refine does_fn tab_ok Try.func121 rfl (by kernel_rfl) (by kernel_rfl) Try.ntmps121 Try.results121 rfl ?_
    simp (disch := omega)
    exact ret_of (h _ _ (Own.nil _))
  · rw [ints_length] at hc ⊢
    refine Does.less (R' := fun v' M' => (v' = .slice (some ⟨b, 0, none⟩) zs.length c ∧ Lib.compact zs = zs ∧ M' = M0.put b (.cells true (ints zs) c)) ∨
      ∃ L, v' = .slice (some ⟨b, 0, none⟩) (Lib.compact zs).length c ∧ M' = M0.put b (.cells true (ints (Lib.compact zs ++ L)) c)) ?_ ?_
    · refine does_fn tab_ok Try.func121 rfl (by kernel_rfl) (by kernel_rfl) Try.ntmps121 Try.results121 rfl ?_
      by_cases h2 : zs.length < 2
      · simp (disch := omega)
        refine ret_of (.inl ⟨rfl, ?_, rfl⟩)
        rw [← cuI_all]
        by_cases h0 : zs.length = 0
        · rw [List.eq_nil_of_length_eq_zero h0]; rfl
        · have h1 : zs.length = 1 := by omega
          rw [h1, cuI_one (by omega), List.take_of_length_le (by omega)]
      · simp (disch := omega)
        refine loop_to tab_ok [2, 3, 4, 5, 10, 11, 12, 13, 14, 15, 16, 17, 18, 19, 20, 21, 22, 23, 24, 25, 26, 27, 28, 29, 30, 31, 32, 33, 34, 35, 36, 37, 38, 39, 40, 41, 42, 43, 44, 45, 46, 47, 48, 49, 50, 51, 52, 53, 54, 55, 56, 57, 58, 59] (fun k : Nat => [(3, .int .i64 k)]) (fun k M' => M0.put b (.cells true (ints zs) c) = M' ∧ 1 ≤ k ∧ k ≤ zs.length ∧ cuI zs k = zs.take k) (fun k => zs.length - k) 1 (by kernel_rfl) (by simp (disch := omega)) ⟨rfl, by omega, by omega, cuI_one (by omega)⟩ ?_
        rintro k M' g ⟨rfl, h1, hk, htk⟩
        by_cases hlt : k < zs.length
        · have kM : (M0.put b (.cells true (ints zs) c)) b = some (.cells true (ints zs) c) := put_same _ _ _
          obtain ⟨q, hq⟩ : ∃ q, q = k - 1 := ⟨_, rfl⟩
          have hq' : (k : Int) - 1 = q := by omega
          have hg1 : (M0.put b (.cells true (ints zs) c)).get? b k = some (.int .i64 zs[k]) := by rw [get_of kM, ints_get, List.getElem?_eq_getElem hlt]; rfl
          have hg0 : (M0.put b (.cells true (ints zs) c)).get? b q = some (.int .i64 (zs[q]'(by omega))) := by rw [get_of kM, ints_get, List.getElem?_eq_getElem (by omega)]; rfl
          simp (disch := omega)
          refine draw_to tab_ok (by kernel_rfl) (by kernel_rfl) (by rfl) ?_
          by_cases he : zs[k] = zs[q]'(by omega)
          · have hc1 : cuI zs (k + 1) = cuI zs k := cuI_no (by omega) hlt (by subst hq; exact he)
            rw [he] at hg1
            generalize zs[q]'(by omega) = z at *
            simp (disch := omega) [hg1, hq', hg0]
            have hmx : mixI zs (k + 1) = zs := by rw [mixI_no hc1, mixI_take htk hk]
            have hcl : (cuI zs (k + 1)).length = k := by rw [hc1, htk, List.length_take]; omega
            refine loop_to tab_ok [3, 5, 29, 30, 31, 32, 33, 34, 35, 36, 37, 38, 39, 40, 41, 42, 43, 44, 45, 46, 47, 48, 49, 50, 51, 52, 53] (fun j : Nat => [(5, .int .i64 j), (3, .int .i64 ((cuI zs (k + j)).length : Nat))]) (fun j M' => M0.put b (.cells true (ints (mixI zs (k + j))) c) = M' ∧ 1 ≤ j ∧ k + j ≤ zs.length ∧ (cuI zs (k + j)).length < k + j) (fun j => zs.length - k - j) 1 (by kernel_rfl) (by simp (disch := omega) [hcl]) ⟨by rw [hmx], by omega, by omega, by omega⟩ ?_
            clear hg1 hg0 he kM hq hq'
            rintro j M' g2 ⟨rfl, hj1, hj, hLt⟩
            have hmL := mixI_len hj
            have kM : (M0.put b (.cells true (ints (mixI zs (k + j))) c)) b = some (.cells true (ints (mixI zs (k + j))) c) := put_same _ _ _
            by_cases hlt2 : k + j < zs.length
            · obtain ⟨p, hp⟩ : ∃ p, p = j - 1 := ⟨_, rfl⟩
              have hp' : (j : Int) - 1 = p := by omega
              have hg1 : (M0.put b (.cells true (ints (mixI zs (k + j))) c)).get? b (k + j) = some (.int .i64 zs[k + j]) := by rw [get_of kM, ints_get, mixI_get (by omega), List.getElem?_eq_getElem hlt2]; rfl
              have hg0 : (M0.put b (.cells true (ints (mixI zs (k + j))) c)).get? b (k + p) = some (.int .i64 (zs[k + p]'(by omega))) := by rw [get_of kM, ints_get, mixI_get (by omega), List.getElem?_eq_getElem (by omega)]; rfl
              have hpe : k + p = k + j - 1 := by omega
              have e1 : k + (j + 1) = k + j + 1 := by omega
              simp (disch := omega)
              refine draw_to tab_ok (by kernel_rfl) (by kernel_rfl) (by rfl) ?_
              by_cases he : zs[k + j] = zs[k + p]'(by omega)
              · have hc2 : cuI zs (k + j + 1) = cuI zs (k + j) := cuI_no (by omega) hlt2 (by simp only [hpe] at he; exact he)
                have hmx2 := mixI_no hc2
                rw [he] at hg1
                generalize zs[k + p]'(by omega) = z at *
                generalize mixI zs (k + j) = l at *
                simp (disch := omega) [hg1, hp', hg0]
                refine Rnd.mk' (j + 1) (by omega) (by (repeat (first | exact km | refine kp rfl ?_ | refine km' rfl ?_))) (by simp (disch := omega) [e1, hc2]) ⟨by rw [e1, hmx2], by omega, by omega, by rw [e1, hc2]; omega⟩
              · have hc2 : cuI zs (k + j + 1) = cuI zs (k + j) ++ [zs[k + j]] := cuI_yes (by omega) hlt2 (by simp only [hpe] at he; exact he)
                have hmx2 := mixI_set hc2 hlt2
                have hl2 : (cuI zs (k + j + 1)).length = (cuI zs (k + j)).length + 1 := by rw [hc2, List.length_append, List.length_singleton]
                generalize zs[k + j] = y at *
                generalize zs[k + p]'(by omega) = z at *
                generalize mixI zs (k + j) = l at *
                generalize (cuI zs (k + j)).length = L at *
                simp (disch := omega) [hg1, hp', hg0, he, kM, ints_set]
                refine Rnd.mk' (j + 1) (by omega) (by (repeat (first | exact km | refine kp rfl ?_ | refine km' rfl ?_))) (by simp (disch := omega) [e1, hl2]) ⟨by rw [e1, ← hmx2]; done, by omega, by omega, by rw [e1, hl2]; omega⟩
            · have hj' : k + j = zs.length := by omega
              have hml : mixI zs (k + j) = Lib.compact zs ++ zs.drop (Lib.compact zs).length := by rw [hj', ← cuI_all]; rfl
              have hcu : cuI zs (k + j) = Lib.compact zs := by rw [hj', ← cuI_all]
              rw [hcu] at hLt ⊢
              simp (disch := omega)
              have hle : (Lib.compact zs).length < zs.length := by omega
              rw [hml] at kM ⊢
              generalize hC : Lib.compact zs = C at *
              obtain ⟨d, hd⟩ : ∃ d, zs.length - C.length = d + 1 := ⟨zs.length - C.length - 1, by omega⟩
              rw [hd]
              generalize hMM : M0.put b (.cells true (ints (C ++ zs.drop C.length)) c) = M2 at *
              show vClrB (M2 b) b C.length (d + 1) (.int .i64 0) _ M2
              rw [kM]
              refine ⟨⟨by rw [ints_length, List.length_append, List.length_drop]; omega, rfl⟩, ?_⟩
              have e : (ints (C ++ zs.drop C.length)).take C.length ++ List.replicate (d + 1) (.int .i64 0) ++ (ints (C ++ zs.drop C.length)).drop (C.length + (d + 1)) = ints (C ++ List.replicate (d + 1) 0) := by
                have e0 : (ints (C ++ zs.drop C.length)).drop (C.length + (d + 1)) = [] := List.drop_of_length_le (by rw [ints_length, List.length_append, List.length_drop]; omega)
                have e1 : (ints (C ++ zs.drop C.length)).take C.length = ints C := by
                  unfold ints
                  rw [← List.map_take, List.take_left]
                rw [e0, e1, List.append_nil, ← ints_append]
                simp [ints]
              rw [e]
              simp (disch := omega)
              refine ret_of (.inr ⟨rfl, List.replicate (d + 1) 0, ?_⟩)
              rw [set_is, ← hMM, put_put]
          · have hc1 : cuI zs (k + 1) = cuI zs k ++ [zs[k]] := cuI_yes (by omega) hlt (by subst hq; exact he)
            have htk1 := take_snoc zs hlt
            generalize zs[k] = y at *
            generalize zs[q]'(by omega) = z at *
            simp (disch := omega) [hg1, hq', hg0, he]
            refine Rnd.mk' (k + 1) (by omega) (by (repeat (first | exact km | refine kp rfl ?_ | refine km' rfl ?_))) (by simp (disch := omega)) ⟨rfl, by omega, by omega, by rw [hc1, htk, htk1]⟩
        · have hk' : k = zs.length := by omega
          subst hk'
          simp (disch := omega)
          exact ret_of (.inl ⟨rfl, by rw [← cuI_all, htk, List.take_length], rfl⟩)
    · rintro v' M' (⟨rfl, hs, rfl⟩ | ⟨L, rfl, rfl⟩)
      · exact ⟨_, (Sub.refl _).less, h _ _ (.inr ⟨b, c, by rw [ints_length, hs], hb, by rw [ints_length, hs]; exact hc, by rw [hs]⟩)⟩
      · have hle := compact_le zs
        refine ⟨M0.put b (.cells true (ints (Lib.compact zs)) c), ?_, h _ _ (.inr ⟨b, c, by rw [ints_length], hb, by rw [ints_length]; omega, rfl⟩)⟩
        intro i X hX
        unfold Mem.put at hX ⊢
        split at hX
        · rename_i e; subst e; injection hX with hX; subst hX; exact ⟨_, if_pos rfl, .inr ⟨true, _, ints L, c, rfl, by rw [ints_append]⟩⟩
        · rename_i e; exact ⟨X, by rw [if_neg e]; exact hX, .inl rfl⟩
end Go.Proofs.Ytbefijbmgmbphaa

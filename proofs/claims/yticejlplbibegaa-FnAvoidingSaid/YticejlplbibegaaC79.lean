/- Contracts: slices.Compact of bytes, walked. -/
import Derived.Lib.SlicesCompact
import Derived.Test.YticejlplbibegaaC78
import Derived.Test.YticejlplbibegaaC39
import Derived.Test.YticejlplbibegaaC72
namespace Go.Proofs.Yticejlplbibegaa
open Go
set_option linter.unusedSimpArgs false
set_option linter.unusedVariables false

theorem bytesV_get8 (l : List UInt8) (i : Nat) : (bytesV l)[i]? = l[i]?.map fun u => .int .u8 (u.toNat : Nat) := by unfold bytesV; rw [List.getElem?_map]
theorem bytesV_set8 (l : List UInt8) (i : Nat) (u : UInt8) : (bytesV l).set i (.int .u8 (u.toNat : Nat)) = bytesV (l.set i u) := by unfold bytesV; rw [List.map_set]
theorem bytesV_app (a b : List UInt8) : bytesV (a ++ b) = bytesV a ++ bytesV b := by unfold bytesV; rw [List.map_append]
theorem byte_ne {x y : UInt8} (h : ¬ x = y) : ¬ (x.toNat : Int) = (y.toNat : Int) := fun e => h (UInt8.toNat_inj.1 (by omega))
/-- What is kept of the first m bytes. -/
def cuB (zs : List UInt8) (m : Nat) : List UInt8 := Lib.compactUpTo zs.toArray m
theorem cuB_zero (zs : List UInt8) : cuB zs 0 = [] := rfl
theorem arrB_get {zs : List UInt8} {i : Nat} (h : i < zs.length) : zs.toArray[i]! = zs[i] := by
  rw [getElem!_pos _ i (by simpa using h)]; simp
theorem cuB_one {zs : List UInt8} (h : 0 < zs.length) : cuB zs 1 = zs.take 1 := by
  unfold cuB
  rw [Lib.compactUpTo_succ, arrB_get h]
  have e : Lib.keeps zs.toArray 0 = true := by simp [Lib.keeps]
  rw [e, if_pos rfl, take_snoc zs h]; rfl
theorem cuB_yes {zs : List UInt8} {m : Nat} (h0 : 0 < m) (h : m < zs.length) (hne : zs[m] ≠ zs[m - 1]'(by omega)) : cuB zs (m + 1) = cuB zs m ++ [zs[m]] := by
  unfold cuB
  rw [Lib.compactUpTo_succ]
  have e : Lib.keeps zs.toArray m = true := by
    simp only [Lib.keeps, decide_eq_true_eq]
    right
    rw [arrB_get h, arrB_get (show m - 1 < zs.length by omega)]
    exact hne
  rw [e, if_pos rfl, arrB_get h]
theorem cuB_no {zs : List UInt8} {m : Nat} (h0 : 0 < m) (h : m < zs.length) (he : zs[m] = zs[m - 1]'(by omega)) : cuB zs (m + 1) = cuB zs m := by
  unfold cuB
  rw [Lib.compactUpTo_succ]
  have e : Lib.keeps zs.toArray m = false := by
    simp only [Lib.keeps, decide_eq_false_iff_not]
    rintro (h1 | h1)
    · omega
    · rw [arrB_get h, arrB_get (show m - 1 < zs.length by omega)] at h1
      exact h1 he
  rw [e]; simp
theorem cuB_le (zs : List UInt8) : ∀ m, (cuB zs m).length ≤ m
  | 0 => Nat.le_refl 0
  | m + 1 => by
    have := cuB_le zs m
    unfold cuB at *
    rw [Lib.compactUpTo_succ, List.length_append]
    split <;> simp <;> omega
theorem cuB_all (zs : List UInt8) : cuB zs zs.length = Lib.compact zs := rfl
theorem compactB_le (zs : List UInt8) : (Lib.compact zs).length ≤ zs.length := by rw [← cuB_all]; exact cuB_le zs _
/-- The cells on the way: what is kept, then what stood there. -/
def mixB (zs : List UInt8) (m : Nat) : List UInt8 := cuB zs m ++ zs.drop (cuB zs m).length
theorem mixB_len {zs : List UInt8} {m : Nat} (h : m ≤ zs.length) : (mixB zs m).length = zs.length := by
  have := cuB_le zs m
  unfold mixB
  rw [List.length_append, List.length_drop]; omega
theorem mixB_get {zs : List UInt8} {m i : Nat} (h : (cuB zs m).length ≤ i) : (mixB zs m)[i]? = zs[i]? := by
  unfold mixB
  rw [List.getElem?_append_right h, List.getElem?_drop]
  congr 1; omega
theorem mixB_no {zs : List UInt8} {m : Nat} (h : cuB zs (m + 1) = cuB zs m) : mixB zs (m + 1) = mixB zs m := by unfold mixB; rw [h]
theorem mixB_set {zs : List UInt8} {m : Nat} {z : UInt8} (h : cuB zs (m + 1) = cuB zs m ++ [z]) (hm : m < zs.length) : (mixB zs m).set (cuB zs m).length z = mixB zs (m + 1) := by
  have hle := cuB_le zs m
  unfold mixB
  rw [h, List.set_append_right _ _ (Nat.le_refl _), Nat.sub_self, List.drop_eq_getElem_cons (show (cuB zs m).length < zs.length by omega), List.set_cons_zero, List.length_append, List.length_singleton, List.append_assoc]
  rfl
theorem mixB_take {zs : List UInt8} {k : Nat} (h : cuB zs k = zs.take k) (hk : k ≤ zs.length) : mixB zs k = zs := by
  unfold mixB
  rw [h, List.length_take, Nat.min_eq_left hk, List.take_append_drop]
theorem compactB_does (v : Value) (zs : List UInt8) (M0 M : Mem) (R : Value → Mem → Prop) (ho : Own M0 v (bytesV zs) M) (hl : zs.length ≤ 1000000)
    (h : ∀ v' M', Own M0 v' (bytesV (Lib.compact zs)) M' → R v' M') : Does Try.prog 28 [v] M R := by
  rcases ho with ⟨rfl, he, rfl⟩ | ⟨b, c, rfl, hb, hc, rfl⟩
  · have hss : zs = [] := by
      have := congrArg List.length he
      rw [lenK] at this
      exact List.eq_nil_of_length_eq_zero this
    subst hss
    refine does_fn tab_ok Try.func28 rfl (by kernel_rfl) (by kernel_rfl) Try.ntmps28 Try.results28 rfl ?_
    simp (disch := omega)
    exact ret_of (h _ _ (Own.nil _))
  · rw [lenK] at hc ⊢
    refine Does.less (R' := fun v' M' => (v' = .slice (some ⟨b, 0, none⟩) zs.length c ∧ Lib.compact zs = zs ∧ M' = M0.put b (.cells true (bytesV zs) c)) ∨
      ∃ L, v' = .slice (some ⟨b, 0, none⟩) (Lib.compact zs).length c ∧ M' = M0.put b (.cells true (bytesV (Lib.compact zs ++ L)) c)) ?_ ?_
    · refine does_fn tab_ok Try.func28 rfl (by kernel_rfl) (by kernel_rfl) Try.ntmps28 Try.results28 rfl ?_
      by_cases h2 : zs.length < 2
      · simp (disch := omega)
        refine ret_of (.inl ⟨rfl, ?_, rfl⟩)
        rw [← cuB_all]
        by_cases h0 : zs.length = 0
        · rw [List.eq_nil_of_length_eq_zero h0]; rfl
        · have h1 : zs.length = 1 := by omega
          rw [h1, cuB_one (by omega), List.take_of_length_le (by omega)]
      · simp (disch := omega)
        refine loop_to tab_ok [2, 3, 4, 5, 10, 11, 12, 13, 14, 15, 16, 17, 18, 19, 20, 21, 22, 23, 24, 25, 26, 27, 28, 29, 30, 31, 32, 33, 34, 35, 36, 37, 38, 39, 40, 41, 42, 43, 44, 45, 46, 47, 48, 49, 50, 51, 52, 53, 54, 55, 56, 57, 58, 59] (fun k : Nat => [(3, .int .i64 k)]) (fun k M' => M0.put b (.cells true (bytesV zs) c) = M' ∧ 1 ≤ k ∧ k ≤ zs.length ∧ cuB zs k = zs.take k) (fun k => zs.length - k) 1 (by kernel_rfl) (by simp (disch := omega)) ⟨rfl, by omega, by omega, cuB_one (by omega)⟩ ?_
        rintro k M' g ⟨rfl, h1, hk, htk⟩
        by_cases hlt : k < zs.length
        · have kM : (M0.put b (.cells true (bytesV zs) c)) b = some (.cells true (bytesV zs) c) := put_same _ _ _
          obtain ⟨q, hq⟩ : ∃ q, q = k - 1 := ⟨_, rfl⟩
          have hq' : (k : Int) - 1 = q := by omega
          have hg1 : (M0.put b (.cells true (bytesV zs) c)).get? b k = some (.int .u8 (zs[k].toNat : Nat)) := by rw [get_of kM, bytesV_get, List.getElem?_eq_getElem hlt]; rfl
          have hg0 : (M0.put b (.cells true (bytesV zs) c)).get? b q = some (.int .u8 ((zs[q]'(by omega)).toNat : Nat)) := by rw [get_of kM, bytesV_get, List.getElem?_eq_getElem (by omega)]; rfl
          simp (disch := omega)
          refine draw_to tab_ok (by kernel_rfl) (by kernel_rfl) (by rfl) ?_
          by_cases he : zs[k] = zs[q]'(by omega)
          · have hc1 : cuB zs (k + 1) = cuB zs k := cuB_no (by omega) hlt (by subst hq; exact he)
            rw [he] at hg1
            generalize zs[q]'(by omega) = z at *
            simp (disch := omega) [hg1, hq', hg0]
            have hmx : mixB zs (k + 1) = zs := by rw [mixB_no hc1, mixB_take htk hk]
            have hcl : (cuB zs (k + 1)).length = k := by rw [hc1, htk, List.length_take]; omega
            refine loop_to tab_ok [3, 5, 29, 30, 31, 32, 33, 34, 35, 36, 37, 38, 39, 40, 41, 42, 43, 44, 45, 46, 47, 48, 49, 50, 51, 52, 53] (fun j : Nat => [(5, .int .i64 j), (3, .int .i64 ((cuB zs (k + j)).length : Nat))]) (fun j M' => M0.put b (.cells true (bytesV (mixB zs (k + j))) c) = M' ∧ 1 ≤ j ∧ k + j ≤ zs.length ∧ (cuB zs (k + j)).length < k + j) (fun j => zs.length - k - j) 1 (by kernel_rfl) (by simp (disch := omega) [hcl]) ⟨by rw [hmx], by omega, by omega, by omega⟩ ?_
            clear hg1 hg0 he kM hq hq'
            rintro j M' g2 ⟨rfl, hj1, hj, hLt⟩
            have hmL := mixB_len hj
            have kM : (M0.put b (.cells true (bytesV (mixB zs (k + j))) c)) b = some (.cells true (bytesV (mixB zs (k + j))) c) := put_same _ _ _
            by_cases hlt2 : k + j < zs.length
            · obtain ⟨p, hp⟩ : ∃ p, p = j - 1 := ⟨_, rfl⟩
              have hp' : (j : Int) - 1 = p := by omega
              have hg1 : (M0.put b (.cells true (bytesV (mixB zs (k + j))) c)).get? b (k + j) = some (.int .u8 (zs[k + j].toNat : Nat)) := by rw [get_of kM, bytesV_get, mixB_get (by omega), List.getElem?_eq_getElem hlt2]; rfl
              have hg0 : (M0.put b (.cells true (bytesV (mixB zs (k + j))) c)).get? b (k + p) = some (.int .u8 ((zs[k + p]'(by omega)).toNat : Nat)) := by rw [get_of kM, bytesV_get, mixB_get (by omega), List.getElem?_eq_getElem (by omega)]; rfl
              have hpe : k + p = k + j - 1 := by omega
              have e1 : k + (j + 1) = k + j + 1 := by omega
              simp (disch := omega)
              refine draw_to tab_ok (by kernel_rfl) (by kernel_rfl) (by rfl) ?_
              by_cases he : zs[k + j] = zs[k + p]'(by omega)
              · have hc2 : cuB zs (k + j + 1) = cuB zs (k + j) := cuB_no (by omega) hlt2 (by simp only [hpe] at he; exact he)
                have hmx2 := mixB_no hc2
                rw [he] at hg1
                generalize zs[k + p]'(by omega) = z at *
                generalize mixB zs (k + j) = l at *
                simp (disch := omega) [hg1, hp', hg0]
                refine Rnd.mk' (j + 1) (by omega) (by (repeat (first | exact km | refine kp rfl ?_ | refine km' rfl ?_))) (by simp (disch := omega) [e1, hc2]) ⟨by rw [e1, hmx2], by omega, by omega, by rw [e1, hc2]; omega⟩
              · have hc2 : cuB zs (k + j + 1) = cuB zs (k + j) ++ [zs[k + j]] := cuB_yes (by omega) hlt2 (by simp only [hpe] at he; exact he)
                have hmx2 := mixB_set hc2 hlt2
                have hl2 : (cuB zs (k + j + 1)).length = (cuB zs (k + j)).length + 1 := by rw [hc2, List.length_append, List.length_singleton]
                generalize zs[k + j] = y at *
                generalize zs[k + p]'(by omega) = z at *
                generalize mixB zs (k + j) = l at *
                generalize (cuB zs (k + j)).length = L at *
                have hne8 := byte_ne he
                simp (disch := omega) [hg1, hp', hg0, hne8, kM, bytesV_set8]
                refine Rnd.mk' (j + 1) (by omega) (by (repeat (first | exact km | refine kp rfl ?_ | refine km' rfl ?_))) (by simp (disch := omega) [e1, hl2]) ⟨by rw [e1, ← hmx2]; done, by omega, by omega, by rw [e1, hl2]; omega⟩
            · have hj' : k + j = zs.length := by omega
              have hml : mixB zs (k + j) = Lib.compact zs ++ zs.drop (Lib.compact zs).length := by rw [hj', ← cuB_all]; rfl
              have hcu : cuB zs (k + j) = Lib.compact zs := by rw [hj', ← cuB_all]
              rw [hcu] at hLt ⊢
              simp (disch := omega)
              have hle : (Lib.compact zs).length < zs.length := by omega
              rw [hml] at kM ⊢
              generalize hC : Lib.compact zs = C at *
              obtain ⟨d, hd⟩ : ∃ d, zs.length - C.length = d + 1 := ⟨zs.length - C.length - 1, by omega⟩
              rw [hd]
              generalize hMM : M0.put b (.cells true (bytesV (C ++ zs.drop C.length)) c) = M2 at *
              show vClrB (M2 b) b C.length (d + 1) (.int .u8 0) _ M2
              rw [kM]
              refine ⟨⟨by rw [lenK, List.length_append, List.length_drop]; omega, rfl⟩, ?_⟩
              have e : (bytesV (C ++ zs.drop C.length)).take C.length ++ List.replicate (d + 1) (.int .u8 0) ++ (bytesV (C ++ zs.drop C.length)).drop (C.length + (d + 1)) = bytesV (C ++ List.replicate (d + 1) 0) := by
                have e0 : (bytesV (C ++ zs.drop C.length)).drop (C.length + (d + 1)) = [] := List.drop_of_length_le (by rw [lenK, List.length_append, List.length_drop]; omega)
                have e1 : (bytesV (C ++ zs.drop C.length)).take C.length = bytesV C := by
                  unfold bytesV
                  rw [← List.map_take, List.take_left]
                rw [e0, e1, List.append_nil, bytesV_app]
                simp [bytesV]
              rw [e]
              simp (disch := omega)
              refine ret_of (.inr ⟨rfl, List.replicate (d + 1) 0, ?_⟩)
              rw [set_is, ← hMM, put_put]
          · have hc1 : cuB zs (k + 1) = cuB zs k ++ [zs[k]] := cuB_yes (by omega) hlt (by subst hq; exact he)
            have htk1 := take_snoc zs hlt
            generalize zs[k] = y at *
            generalize zs[q]'(by omega) = z at *
            have hne8 := byte_ne he
            simp (disch := omega) [hg1, hq', hg0, hne8]
            refine Rnd.mk' (k + 1) (by omega) (by (repeat (first | exact km | refine kp rfl ?_ | refine km' rfl ?_))) (by simp (disch := omega)) ⟨rfl, by omega, by omega, by rw [hc1, htk, htk1]⟩
        · have hk' : k = zs.length := by omega
          subst hk'
          simp (disch := omega)
          exact ret_of (.inl ⟨rfl, by rw [← cuB_all, htk, List.take_length], rfl⟩)
    · rintro v' M' (⟨rfl, hs, rfl⟩ | ⟨L, rfl, rfl⟩)
      · exact ⟨_, (Sub.refl _).less, h _ _ (.inr ⟨b, c, by rw [lenK, hs], hb, by rw [lenK, hs]; exact hc, by rw [hs]⟩)⟩
      · have hle := compactB_le zs
        refine ⟨M0.put b (.cells true (bytesV (Lib.compact zs)) c), ?_, h _ _ (.inr ⟨b, c, by rw [lenK], hb, by rw [lenK]; omega, rfl⟩)⟩
        intro i X hX
        unfold Mem.put at hX ⊢
        split at hX
        · rename_i e; subst e; injection hX with hX; subst hX; exact ⟨_, if_pos rfl, .inr ⟨true, _, bytesV L, c, rfl, by rw [bytesV_app]⟩⟩
        · rename_i e; exact ⟨X, by rw [if_neg e]; exact hX, .inl rfl⟩
end Go.Proofs.Yticejlplbibegaa

/- Merged: C38 C39 C40. -/
import Derived.Test.YticejlplbibegaaGreatDoorM10
import Derived.Test.YticejlplbibegaaGreatDoorCH
import Derived.Test.YticejlplbibegaaGreatDoorC21
import Derived.Test.YticejlplbibegaaGreatDoorC17
/-! Contracts: balanced words of two letters, of the reference. -/
namespace Go.Proofs.YticejlplbibegaaGreatDoor
open Go
set_option linter.unusedSimpArgs false
set_option linter.unusedVariables false

def nB (u : List UInt8) : Int := cnt u 1
theorem nB_snoc (u : List UInt8) (c : UInt8) : nB (u ++ [c]) = nB u + if c = 98 then 1 else 0 := by
  unfold nB
  rw [cnt_snoc]
  congr 1
  have : c.toNat = 97 + 1 ↔ c = 98 := ⟨fun h => UInt8.toNat_inj.1 (by rw [h]; rfl), fun h => by rw [h]; rfl⟩
  simp only [this]
theorem nB_nil : nB [] = 0 := rfl
theorem nB_in (u : List UInt8) : 0 ≤ nB u ∧ nB u ≤ u.length := cnt_le u 1
theorem nB_zero (w : List UInt8) (i : Nat) : nB (seg w i 0) = 0 := by
  unfold seg
  rw [Nat.add_zero, List.drop_of_length_le (by rw [List.length_take]; omega)]
  rfl
theorem seg_snoc {w : List UInt8} {i j : Nat} (h : i + j < w.length) : seg w i (j + 1) = seg w i j ++ [w[i + j]] := by
  unfold seg
  rw [show i + (j + 1) = i + j + 1 by omega, take_snoc w h, List.drop_append_of_le_length (by rw [List.length_take]; omega)]
theorem lo_in {w : List UInt8} {n : Nat} : ∀ i, i + n ≤ w.length + 1 → 0 ≤ loB w n i ∧ loB w n i ≤ n
  | 0, _ => by unfold loB segsA; simp
  | i + 1, h => by
    have h0 := lo_in (w := w) (n := n) i (by omega)
    have h1 := nB_in (seg w i n)
    rw [seg_len (by omega)] at h1
    rw [loB_succ]
    unfold mnF nB at *
    split <;> omega
theorem hi_in {w : List UInt8} {n : Nat} : ∀ i, i + n ≤ w.length + 1 → 0 ≤ hiB w n i ∧ hiB w n i ≤ n
  | 0, _ => by unfold hiB segsA; simp
  | i + 1, h => by
    have h0 := hi_in (w := w) (n := n) i (by omega)
    have h1 := nB_in (seg w i n)
    rw [seg_len (by omega)] at h1
    rw [hiB_succ]
    unfold mxF nB at *
    split <;> omega
theorem l08Balanced_does (w : List UInt8) (M : Mem) (R : Value → Mem → Prop) (hl : w.length ≤ 60) (h : R (.bool (balB2 w)) M) : Does Tryz.prog 116 [str w] M R := by
  refine does_fn tab_ok Tryz.func116 rfl (by kernel_rfl) (by kernel_rfl) Tryz.ntmps116 Tryz.results116 rfl ?_
  simp (disch := omega)
  refine loop_to tab_ok [2, 3, 4, 5, 6, 7, 8, 9, 10, 11, 12, 13, 14, 15, 16, 17, 18, 19, 20, 21, 22, 23, 24, 25, 26, 27, 28, 29, 30, 31, 32, 33, 34, 35, 36, 37, 38, 39, 40, 41, 42, 43, 44, 45, 46, 47] (fun n : Nat => [(3, .int .i64 ((n : Int) + 1))]) (fun n M' => n ≤ w.length ∧ M' = M ∧ balTo w n = true) (fun n => w.length - n) 0 (by kernel_rfl) (by simp (disch := omega)) ⟨by omega, rfl, rfl⟩ ?_
  rintro n M' g ⟨hn, rfl, hto⟩
  by_cases hlt : n < w.length
  · have hts := balTo_succ w n
    simp (disch := omega)
    refine loop_to tab_ok [4, 5, 6, 7, 8, 16, 17, 18, 19, 20, 21, 22, 23, 24, 25, 26, 27, 28, 29, 30, 31, 32, 33, 34, 35, 36, 37, 38, 39, 40, 41, 42, 43] (fun i : Nat => [(6, .int .i64 i), (4, .int .i64 (loB w (n + 1) i)), (5, .int .i64 (hiB w (n + 1) i))]) (fun i M1 => i ≤ w.length - n ∧ M1 = M') (fun i => w.length - i) 0 (by kernel_rfl) (by simp (disch := omega); exact ⟨rfl, rfl⟩) ⟨by omega, rfl⟩ ?_
    rintro i M1 g1 ⟨hi, rfl⟩
    have hlo := lo_in (w := w) (n := n + 1) i (by omega)
    have hhi := hi_in (w := w) (n := n + 1) i (by omega)
    by_cases hil : i < w.length - n
    · have e1 := loB_succ w (n + 1) i
      have e2 := hiB_succ w (n + 1) i
      have hsl : (seg w i (n + 1)).length = n + 1 := seg_len (by omega)
      generalize loB w (n + 1) i = lo at *
      generalize hiB w (n + 1) i = hi' at *
      simp (disch := omega)
      refine loop_to tab_ok [7, 8, 25, 26, 27, 28, 29, 30, 31, 32, 33, 34, 35, 36, 37] (fun k : Nat => [(8, .int .i64 k), (7, .int .i64 (nB (seg w i (k - i))))]) (fun k M2 => i ≤ k ∧ k ≤ i + (n + 1) ∧ M2 = M1) (fun k => i + (n + 1) - k) i (by kernel_rfl) (by simp (disch := omega); rw [nB_zero]) ⟨by omega, by omega, rfl⟩ ?_
      rintro k M2 g2 ⟨hk, hk', rfl⟩
      obtain ⟨j, hj⟩ : ∃ j, j = k - i := ⟨_, rfl⟩
      rw [← hj]
      have hnb := nB_in (seg w i j)
      rw [seg_len (by omega)] at hnb
      by_cases hjl : k < i + (n + 1)
      · have hij : i + j = k := by omega
        have hkl : k < w.length := by omega
        have hx : w[k]? = some w[k] := List.getElem?_eq_getElem hkl
        have hsn := nB_snoc (seg w i j) w[i + j]
        rw [← seg_snoc (by omega)] at hsn
        have hu := w[k].toNat_lt
        have hww : w[i + j] = w[k] := by simp only [hij]
        rw [hww] at hsn
        have hj1 : k + 1 - i = j + 1 := by omega
        generalize w[k] = c at *
        generalize nB (seg w i j) = q at *
        by_cases hc : c = 98
        · have hc' : ((c.toNat : Int) == 98) = true := by rw [hc]; rfl
          rw [if_pos hc] at hsn
          simp (disch := omega) [hx, at_u8 hx, hc']
          exact Rnd.mk' (k + 1) (by omega) (by (repeat (first | exact km | refine kp rfl ?_ | refine km' rfl ?_))) (by rw [hj1]; simp (disch := omega) [hsn]; try omega) ⟨by omega, by omega, rfl⟩
        · have hc' : ((c.toNat : Int) == 98) = false := by
            rw [beq_eq_false_iff_ne]
            intro e
            exact hc (UInt8.toNat_inj.1 (by rw [show (98 : UInt8).toNat = 98 from rfl]; omega))
          rw [if_neg hc, Int.add_zero] at hsn
          simp (disch := omega) [hx, at_u8 hx, hc']
          exact Rnd.mk' (k + 1) (by omega) (by (repeat (first | exact km | refine kp rfl ?_ | refine km' rfl ?_))) (by rw [hj1]; simp (disch := omega) [hsn]; try omega) ⟨by omega, by omega, rfl⟩
      · have hj' : j = n + 1 := by omega
        rw [hj'] at hnb ⊢
        unfold mnF at e1
        unfold mxF at e2
        have e1 : loB w (n + 1) (i + 1) = if nB (seg w i (n + 1)) < lo then nB (seg w i (n + 1)) else lo := e1
        have e2 : hiB w (n + 1) (i + 1) = if hi' < nB (seg w i (n + 1)) then nB (seg w i (n + 1)) else hi' := e2
        generalize nB (seg w i (n + 1)) = q at *
        simp (disch := omega)
        exact Rnd.mk' (i + 1) (by omega) (by (repeat (first | exact km | refine kp rfl ?_ | refine km' rfl ?_))) (by simp (disch := omega) [e1, e2]) ⟨by omega, rfl⟩
    · have hi' : i = w.length - n := by omega
      subst hi'
      have hok : okB8 w (n + 1) = decide (hiB w (n + 1) (w.length - n) - loB w (n + 1) (w.length - n) ≤ 1) := by
        unfold okB8
        rw [show w.length - (n + 1) + 1 = w.length - n by omega]
      generalize hiB w (n + 1) (w.length - n) = hh at *
      generalize loB w (n + 1) (w.length - n) = ll at *
      by_cases hbad : 1 < hh - ll
      · have hf : okB8 w (n + 1) = false := by rw [hok]; exact decide_eq_false (by omega)
        have : balB2 w = false := balTo_no hlt hf
        rw [this] at h
        simp (disch := omega) [hbad]
        exact ret_of h
      · have ht : okB8 w (n + 1) = true := by rw [hok]; exact decide_eq_true (by omega)
        simp (disch := omega) [hbad]
        exact Rnd.mk' (n + 1) (by omega) (by (repeat (first | exact km | refine kp rfl ?_ | refine km' rfl ?_))) (by simp (disch := omega); try omega) ⟨by omega, rfl, by rw [hts, hto, ht]; rfl⟩
  · have hn' : n = w.length := by omega
    subst hn'
    have : balB2 w = true := hto
    rw [this] at h
    simp (disch := omega)
    exact ret_of h
end Go.Proofs.YticejlplbibegaaGreatDoor
/-! Contracts: slices.DeleteFunc of strings. -/
namespace Go.Proofs.YticejlplbibegaaGreatDoor
open Go
set_option linter.unusedSimpArgs false
set_option linter.unusedVariables false

/-- Less is told: of fewer blocks, or of fewer cells. -/
def Less (A B : Mem) : Prop := ∀ b X, A b = some X → ∃ Y, B b = some Y ∧ (X = Y ∨ ∃ own xs ys tot, X = .cells own xs tot ∧ Y = .cells own (xs ++ ys) tot)
theorem Less.rep {A B : Mem} {w : World} (h : Less A B) (hw : Rep B w) : Rep A w := by
  intro b X hX
  obtain ⟨Y, hY, e⟩ := h b X hX
  have hold := hw b Y hY
  rcases e with rfl | ⟨own, xs, ys, tot, rfl, rfl⟩
  · exact hold
  · obtain ⟨c, e, fr, h1, h2, ⟨zs, h3⟩, h4⟩ := hold
    exact ⟨c, e, fr, h1, h2, ⟨ys ++ zs, by rw [h3, List.append_assoc]⟩, h4⟩
theorem Less.owns {A B : Mem} {b : Nat} (h : Less A B) (ho : owns A b) : owns B b := by
  obtain ⟨X, hX, o⟩ := ho
  obtain ⟨Y, hY, e⟩ := h b X hX
  rcases e with rfl | ⟨own, xs, ys, tot, rfl, rfl⟩
  · exact ⟨_, hY, o⟩
  · exact ⟨_, hY, o⟩
theorem Sub.less {A B : Mem} (h : Sub A B) : Less A B := fun b X hX => ⟨X, h b X hX, .inl rfl⟩
theorem Does.less {P : Program} {f : FuncId} {args : List Value} {M : Mem} {R R' : Value → Mem → Prop} (h : Does P f args M R') (hr : ∀ v M', R' v M' → ∃ M'', Less M'' M' ∧ R v M'') : Does P f args M R :=
  ⟨h.1, fun w hw => (h.2 w hw).mono fun _ _ ⟨v, M', h1, h2, h3, h4⟩ => by
    obtain ⟨M'', hl, hR⟩ := hr v M' h4
    exact ⟨v, M'', h1, hl.rep h2, ⟨h3.os, h3.tape, h3.output, h3.size, h3.block, fun b hb => h3.own b (hl.owns hb)⟩, hR⟩⟩
/-- A function value that tells p of strings; memory may grow. -/
def TellsS (P : Program) (fv : Value) (ss : List (List UInt8)) (p : List UInt8 → Bool) : Prop :=
  ∀ u ∈ ss, ∀ M R, (∀ M', Sub M M' → R (.bool (p u)) M') → vCallV P fv [str u] R M
theorem idxG_does (v fv : Value) (ss : List (List UInt8)) (p : List UInt8 → Bool) (M : Mem) (R : Value → Mem → Prop) (hv : Rd M v (strs ss)) (hf : TellsS Tryz.prog fv ss p) (hl : ss.length ≤ 1000000)
    (h1 : ∀ (r : Nat) M', Sub M M' → (hr : r < ss.length) → (∀ x ∈ ss.take r, p x = false) → p ss[r] = true → R (.int .i64 r) M') (h0 : ∀ M', Sub M M' → (∀ x ∈ ss, p x = false) → R (.int .i64 (-1)) M') : Does Tryz.prog 149 [v, fv] M R := by
  refine does_fn tab_ok Tryz.func149 rfl (by kernel_rfl) (by kernel_rfl) Tryz.ntmps149 Tryz.results149 rfl ?_
  obtain ⟨a, c, rfl, ha⟩ := hv.opened
  rw [strs_length] at ha ⊢
  simp (disch := omega)
  refine loop_to tab_ok [4, 5, 8, 9, 10, 11, 12, 13, 14, 15, 16, 17, 18] (fun i : Nat => [(8, .int .i64 i)]) (fun i M' => Sub M M' ∧ i ≤ ss.length ∧ ∀ x ∈ ss.take i, p x = false) (fun i => ss.length - i) 0 (by kernel_rfl) (by simp (disch := omega)) ⟨Sub.refl M, by omega, by simp⟩ ?_
  rintro i M' g ⟨hs, hi, hp⟩
  by_cases hlt : i < ss.length
  · rcases ha with hz | ⟨b, o, rfl, ha⟩
    · omega
    have hg := ha i hlt
    rw [strs_get, List.getElem?_eq_getElem hlt] at hg
    have hg' := get_keep hg hs
    have hmem := List.getElem_mem hlt
    have htk := take_snoc ss hlt
    obtain ⟨u, hu⟩ : ∃ u, ss[i] = u := ⟨_, rfl⟩
    rw [hu] at hg' hmem htk
    simp (disch := omega) [hg']
    refine hf u hmem _ _ ?_
    intro M2 s2
    cases hpu : p u
    · simp (disch := omega)
      refine Rnd.mk' (i + 1) (by omega) (by (repeat (first | exact km | refine kp rfl ?_ | refine km' rfl ?_))) (by simp (disch := omega)) ⟨hs.trans s2, by omega, ?_⟩
      rw [htk]
      intro x hx
      rcases List.mem_append.1 hx with h | h
      · exact hp x h
      · rw [List.mem_singleton.1 h]; exact hpu
    · simp (disch := omega)
      exact ret_of (h1 i _ (hs.trans s2) hlt hp (by rw [hu]; exact hpu))
  · have hi' : i = ss.length := by omega
    subst hi'
    rw [List.take_length] at hp
    simp (disch := omega)
    exact ret_of (h0 _ hs hp)
theorem deleteFunc_does (v fv : Value) (ss : List (List UInt8)) (p : List UInt8 → Bool) (M0 M : Mem) (R : Value → Mem → Prop) (ho : Own M0 v (strs ss) M) (hf : TellsS Tryz.prog fv ss p) (hl : ss.length ≤ 1000000)
    (h : ∀ v' M', Own M0 v' (strs (ss.filter fun u => !p u)) M' → R v' M') : Does Tryz.prog 114 [v, fv] M R := by
  have hv := ho.rd
  rcases ho with ⟨rfl, he, rfl⟩ | ⟨b, c, rfl, hb, hc, rfl⟩
  · have hss : ss = [] := by
      have := congrArg List.length he
      rw [strs_length] at this
      exact List.eq_nil_of_length_eq_zero this
    subst hss
    refine does_fn tab_ok Tryz.func114 rfl (by kernel_rfl) (by kernel_rfl) Tryz.ntmps114 Tryz.results114 rfl ?_
    simp (disch := omega)
    refine idxG_does _ _ [] p _ _ hv hf (by simp) (fun r M' _ hr => by simp at hr) ?_
    intro M' hs _
    simp (disch := omega)
    exact ret_sub hs (h _ _ (Own.nil _))
  · rw [strs_length] at hc hv ⊢
    have hkeep : ∀ M', Sub M0 M' → M' b = some (.cells true (strs ss) c) → (∀ x ∈ ss, p x = false) → ∃ M'', Less M'' M' ∧ R (.slice (some ⟨b, 0, none⟩) ss.length c) M'' := by
      intro M' hs hM hp
      have e : ss.filter (fun u => !p u) = ss := List.filter_eq_self.2 fun x hx => by rw [hp x hx]; rfl
      rw [e] at h
      refine ⟨M0.put b (.cells true (strs ss) c), ?_, h _ _ (.inr ⟨b, c, by rw [strs_length], hb, by rw [strs_length]; exact hc, rfl⟩)⟩
      intro i X hX
      unfold Mem.put at hX
      split at hX
      · rename_i e; subst e; injection hX with hX; subst hX; exact ⟨_, hM, .inl rfl⟩
      · exact ⟨X, hs _ _ hX, .inl rfl⟩
    refine Does.less (R' := fun v' M' => (v' = .slice (some ⟨b, 0, none⟩) ss.length c ∧ Sub M0 M' ∧ M' b = some (.cells true (strs ss) c) ∧ ∀ x ∈ ss, p x = false) ∨
      ∃ L, v' = .slice (some ⟨b, 0, none⟩) (ss.filter fun u => !p u).length c ∧ Sub M0 M' ∧ M' b = some (.cells true (strs ((ss.filter fun u => !p u) ++ L)) c)) ?_ ?_
    · have hk : (M0.put b (.cells true (strs ss) c)) b = some (.cells true (strs ss) c) := put_same _ _ _
      have hs0 : Sub M0 (M0.put b (.cells true (strs ss) c)) := (Sub.refl _).put hb _
      generalize M0.put b (.cells true (strs ss) c) = N at *
      refine does_fn tab_ok Tryz.func114 rfl (by kernel_rfl) (by kernel_rfl) Tryz.ntmps114 Tryz.results114 rfl ?_
      simp (disch := omega)
      refine idxG_does _ _ ss p _ _ hv hf hl ?_ ?_
      · intro r N1 s1 hr hno hyes
        have hr1 : ¬ (r : Int) = -1 := by omega
        have hk1 := s1 _ _ hk
        simp (disch := omega) [hr1]
        refine loop_to tab_ok [5, 6, 7, 16, 17, 18, 19, 20, 21, 22, 23, 24, 25, 26, 27, 28, 29, 30, 31, 32, 33, 34, 35] (fun x : Nat × Nat × List (List UInt8) => [(5, .int .i64 x.1), (6, .int .i64 x.2.1)]) (fun x M' => x.1 < x.2.1 ∧ x.2.1 ≤ ss.length ∧ x.2.2.length = ss.length ∧ x.2.2.take x.1 = (ss.take x.2.1).filter (fun u => !p u) ∧ x.2.2.drop x.2.1 = ss.drop x.2.1 ∧ M' b = some (.cells true (strs x.2.2) c) ∧ Sub M0 M') (fun x => ss.length - x.2.1) (r, r + 1, ss) (by kernel_rfl) (by simp (disch := omega)) ⟨by simp only; omega, by simp only; omega, rfl, ?_, rfl, hk1, hs0.trans s1⟩ ?_
        · simp only
          rw [take_snoc ss hr, List.filter_append, List.filter_eq_self.2 (fun x hx => by rw [hno x hx]; rfl)]
          simp [hyes]
        rintro ⟨i, j, L⟩ M' g ⟨hij, hj, hL, htk, hdr, hM, hs⟩
        simp only at hij hj hL htk hdr hM hs
        by_cases hlt : j < ss.length
        · have hx : L[j]? = some ss[j] := by
            have := congrArg (fun l => l[0]?) hdr
            simp only [List.getElem?_drop, Nat.add_zero] at this
            rw [this, List.getElem?_eq_getElem hlt]
          have hg : M'.get? b j = some (str ss[j]) := by rw [get_of hM, strs_get, hx]; rfl
          have hmem := List.getElem_mem hlt
          have htj := take_snoc ss hlt
          have hd2 : L.drop (j + 1) = ss.drop (j + 1) := by rw [← List.drop_drop, hdr, List.drop_drop]
          generalize ss[j] = u at *
          simp (disch := omega) [hg]
          refine hf u hmem _ _ ?_
          intro M2 s2
          have hM2 := s2 _ _ hM
          cases hpu : p u
          · simp (disch := omega) [hM2, strs_set]
            refine Rnd.mk' (i + 1, j + 1, L.set i u) (by simp only; omega) (by (repeat (first | exact km | refine kp rfl ?_ | refine km' rfl ?_))) (by simp (disch := omega)) ⟨by simp only; omega, by simp only; omega, by simp only [List.length_set]; omega, ?_, ?_, ?_, (hs.trans s2).set hb _⟩
            · simp only
              rw [htj, List.filter_append, ← htk]
              have e : [u].filter (fun u => !p u) = [u] := by simp [hpu]
              rw [e]
              have hi : i < (L.set i u).length := by rw [List.length_set]; omega
              rw [take_snoc _ hi, List.take_set_of_le (Nat.le_refl i), List.getElem_set_self]
            · simp only
              rw [List.drop_set_of_lt (by omega), hd2]
            · simp only
              rw [set_is]; exact put_same _ _ _
          · simp (disch := omega)
            refine Rnd.mk' (i, j + 1, L) (by simp only; omega) (by (repeat (first | exact km | refine kp rfl ?_ | refine km' rfl ?_))) (by simp (disch := omega)) ⟨by simp only; omega, by simp only; omega, hL, ?_, hd2, hM2, hs.trans s2⟩
            simp only
            rw [htj, List.filter_append, ← htk]
            simp [hpu]
        · have hj' : j = ss.length := by omega
          subst hj'
          rw [List.take_length] at htk
          have hil : i = (ss.filter fun u => !p u).length := by rw [← htk, List.length_take]; omega
          simp (disch := omega) [hM]
          obtain ⟨d, hd⟩ : ∃ d, ss.length - i = d + 1 := ⟨ss.length - i - 1, by omega⟩
          rw [hd]
          show vClrB (M' b) b i (d + 1) (str []) _ M'
          rw [hM]
          refine ⟨⟨by rw [strs_length]; omega, rfl⟩, ?_⟩
          have e : (strs L).take i ++ List.replicate (d + 1) (str []) ++ (strs L).drop (i + (d + 1)) = strs ((ss.filter fun u => !p u) ++ List.replicate (d + 1) []) := by
            rw [List.drop_of_length_le (by rw [strs_length]; omega), List.append_nil, ← htk]
            simp [strs]
          rw [e, hil]
          simp (disch := omega)
          exact ret_of (.inr ⟨rfl, hs.set hb _, _, by rw [set_is]; exact put_same _ _ _⟩)
      · intro N1 s1 hno
        simp (disch := omega)
        exact ret_of (.inl ⟨rfl, hs0.trans s1, s1 _ _ hk, hno⟩)
    · rintro v' M' (⟨rfl, hs, hM, hp⟩ | ⟨L, rfl, hs, hM⟩)
      · exact hkeep M' hs hM hp
      · have hle : (ss.filter fun u => !p u).length ≤ ss.length := List.length_filter_le _ _
        refine ⟨M0.put b (.cells true (strs (ss.filter fun u => !p u)) c), ?_, h _ _ (.inr ⟨b, c, by rw [strs_length], hb, by rw [strs_length]; omega, rfl⟩)⟩
        intro i X hX
        unfold Mem.put at hX
        split at hX
        · rename_i e; subst e; injection hX with hX; subst hX; exact ⟨_, hM, .inr ⟨true, _, strs L, c, rfl, by rw [strs_append]⟩⟩
        · exact ⟨X, hs _ _ hX, .inl rfl⟩
end Go.Proofs.YticejlplbibegaaGreatDoor
/-! Contracts: balanced words of two letters. -/
namespace Go.Proofs.YticejlplbibegaaGreatDoor
open Go
set_option linter.unusedSimpArgs false
set_option linter.unusedVariables false

theorem balL_len (m : Nat) : (balL m).length ≤ 2 ^ m := by
  rw [balL_is, ← allW_len 2 m]
  exact List.length_filter_le _ _
theorem balL_word {m : Nat} {w : List UInt8} (h : w ∈ balL m) : w.length = m ∧ AB w := by
  rw [balL_is] at h
  have := (List.mem_filter.1 h).1
  exact ⟨allW_word 2 m w this, allW_ab m w this⟩
theorem pow2_le {m : Nat} (h : m ≤ 10) : 2 ^ m ≤ 1024 := Nat.pow_le_pow_right (by omega) h
def grB (out : List (List UInt8)) : List (List UInt8) := (growA out 2).filter balB2
theorem grB_snoc (out : List (List UInt8)) (w : List UInt8) : grB (out ++ [w]) = grB out ++ (grow1 w 2).filter balB2 := by
  unfold grB
  rw [growA_snoc, List.filter_append]
theorem grow1_in {w x : List UInt8} {c : Nat} (h : x ∈ grow1 w c) : x.length = w.length + 1 := by
  obtain ⟨y, _, rfl⟩ := List.mem_map.1 h
  simp
def inB (n : Int) : Bool := decide (0 ≤ n ∧ n ≤ 10)
def balR (n : Int) : List (List UInt8) := if inB n then balL n.toNat else []
def balC (n : Int) : Int := if inB n then 0 else 2
theorem spec_BalancedWords (n : Int) (M : Mem) (R : Value → Mem → Prop) (h : Lst (balC n) (strs (balR n)) M R) : Does Tryz.prog 54 [.int .i64 n] M R := by
  unfold balC balR inB at h
  refine does_fn tab_ok Tryz.func54 rfl (by kernel_rfl) (by kernel_rfl) Tryz.ntmps54 Tryz.results54 rfl ?_
  simp (disch := omega)
  refine l01In_does n 0 10 _ _ ?_
  by_cases h1 : 0 ≤ n ∧ n ≤ 10
  · rw [decide_eq_true h1, if_pos rfl, if_pos rfl] at h
    rw [decide_eq_true h1]
    obtain ⟨n, rfl⟩ : ∃ k : Nat, n = k := ⟨n.toNat, by omega⟩
    rw [Int.toNat_natCast] at h
    simp (disch := omega)
    intro b0 hb0
    simp (disch := omega)
    refine loop_to tab_ok [4, 5, 6, 7, 9, 10, 15, 16, 17, 18, 19, 20, 21, 22, 23, 24, 25, 26, 27, 28, 29, 30, 31, 32, 33, 34, 35, 36, 37, 38, 39, 40, 41, 42, 43, 44, 45, 46] (fun x : Nat × Value => [(5, .int .i64 x.1), (4, x.2)]) (fun x M' => x.1 ≤ n ∧ Own M x.2 (strs (balL x.1)) M') (fun x => n - x.1) (0, .slice (some ⟨b0, 0, none⟩) 1 1) (by kernel_rfl) (by simp (disch := omega)) ⟨by omega, Own.new hb0 rfl (Nat.le_refl 1)⟩ ?_
    rintro ⟨i, v⟩ M' g ⟨hi, ho⟩
    simp only at hi ho
    by_cases hlt : i < n
    · obtain ⟨a, c, rfl, ha⟩ := ho.rd.opened
      have hbl := balL_len i
      have hp := pow2_le (show i ≤ 10 by omega)
      obtain ⟨r, hr⟩ : ∃ r, (balL i).length = r := ⟨_, rfl⟩
      rw [strs_length, hr] at ha ho ⊢
      simp (disch := omega)
      intro bn hbn
      simp (disch := omega)
      have hsn : Sub M' (M'.put bn (.cells true [] 0)) := (Sub.refl _).put hbn _
      refine loop_to tab_ok [6, 7, 9, 10, 21, 22, 23, 24, 25, 26, 27, 28, 29, 30, 31, 32, 33, 34, 35, 36, 37, 38, 39, 40, 41, 42, 43, 44, 45] (fun x : Nat × Value => [(7, .int .i64 x.1), (6, x.2)]) (fun x M1 => x.1 ≤ r ∧ Own M' x.2 (strs (grB ((balL i).take x.1))) M1) (fun x => r - x.1) (0, .slice (some ⟨bn, 0, none⟩) 0 0) (by kernel_rfl) (by simp (disch := omega)) ⟨by omega, Own.new hbn rfl (Nat.le_refl 0)⟩ ?_
      rintro ⟨j, v1⟩ M1 g1 ⟨hj, ho1⟩
      simp only at hj ho1
      by_cases hjl : j < r
      · rcases ha with h0 | ⟨b, o, rfl, ha⟩
        · omega
        have hjl' : j < (balL i).length := by omega
        have hx : (balL i)[j]? = some (balL i)[j] := List.getElem?_eq_getElem hjl'
        have hmem := List.getElem_mem hjl'
        have hsn2 := take_snoc (balL i) hjl'
        obtain ⟨w, hw⟩ : ∃ w, (balL i)[j] = w := ⟨_, rfl⟩
        rw [hw] at hmem hsn2
        obtain ⟨hwl, hwab⟩ := balL_word hmem
        have hg0 := ha j hjl
        rw [strs_get, hx, hw] at hg0
        have hg0 : M'.get? b (o + j) = some (str w) := hg0
        simp (disch := omega)
        intro bl hbl'
        have k1 : (M1.put bl (.cells true [str [97], str [98]] 2)) bl = some (.cells true [str [97], str [98]] 2) := put_same _ _ _
        simp (disch := omega)
        have hcap := List.length_filter_le balB2 (growA ((balL i).take j) 2)
        rw [growA_len, List.length_take] at hcap
        refine loop_to tab_ok [6, 9, 10, 29, 30, 31, 32, 33, 34, 35, 36, 37, 38, 39, 40, 41, 42, 43, 44, 45] (fun x : Nat × Value => [(29, .int .i64 x.1), (6, x.2)]) (fun x M2 => x.1 ≤ 2 ∧ ∃ D, Sub M' D ∧ D bl = some (.cells true [str [97], str [98]] 2) ∧ Own D x.2 (strs (grB ((balL i).take j) ++ (grow1 w x.1).filter balB2)) M2) (fun x => 2 - x.1) (0, v1) (by kernel_rfl) (by simp (disch := omega)) ⟨by omega, ?_⟩ ?_
        · refine ⟨M'.put bl (.cells true [str [97], str [98]] 2), (Sub.refl _).put (none_of ho1.sub hbl') _, put_same _ _ _, ?_⟩
          simp only [grow1, List.range_zero, List.map_nil, List.filter_nil, List.append_nil]
          exact ho1.push hbl' _
        rintro ⟨y, v2⟩ M2 g2 ⟨hy, D, hD, hDl, ho2⟩
        simp only at hy ho2
        have hg := get_keep hg0 (hD.trans ho2.sub)
        by_cases hyl : y < 2
        · have hly : M2.get? bl y = some (str [ltr y]) := by
            rw [get_of (ho2.sub _ _ hDl)]
            have : y = 0 ∨ y = 1 := by omega
            rcases this with rfl | rfl <;> rfl
          have hgs : (grow1 w (y + 1)).filter balB2 = (grow1 w y).filter balB2 ++ if balB2 (w ++ [ltr y]) then [w ++ [ltr y]] else [] := by
            rw [grow1_succ, List.filter_append]
            cases hb : balB2 (w ++ [ltr y]) <;> simp [hb]
          have hcnt : (grB ((balL i).take j) ++ (grow1 w y).filter balB2).length ≤ 3000 := by
            rw [List.length_append]
            have h2 := List.length_filter_le balB2 (grow1 w y)
            have h3 : (grow1 w y).length = y := by simp [grow1]
            unfold grB
            omega
          simp (disch := omega) [hly, hg]
          refine l08Balanced_does (w ++ [ltr y]) _ _ (by simp; omega) ?_
          generalize hq : grB ((balL i).take j) ++ (grow1 w y).filter balB2 = Q at *
          cases hb : balB2 (w ++ [ltr y])
          · rw [hb, if_neg (by decide), List.append_nil] at hgs
            simp (disch := omega)
            refine Rnd.mk' (y + 1, v2) (by simp only; omega) (by (repeat (first | exact km | refine kp rfl ?_ | refine km' rfl ?_))) (by simp (disch := omega)) ⟨by simp only; omega, D, hD, hDl, ?_⟩
            simp only
            rw [hgs, hq]
            exact ho2
          · rw [hb, if_pos rfl] at hgs
            simp (disch := omega)
            intro b' hb'
            simp (disch := omega)
            refine app_own ho2 ((Sub.refl _).put hb' _) (by simp (disch := omega); rfl) rfl rfl (by omega) (by simp (disch := omega)) (by simp (disch := omega); omega) ?_
            intro v' M'' N'' ho' hs'
            simp (disch := omega)
            refine Rnd.mk'' M'' (y + 1, v') hs' (by simp only; omega) (by (repeat (first | exact km | refine kp rfl ?_ | refine km' rfl ?_))) (by simp (disch := omega)) ⟨by simp only; omega, D, hD, hDl, ?_⟩
            simp only
            rw [hgs, ← List.append_assoc, hq, ← strs_snoc]
            exact ho'
        · have hy' : y = 2 := by omega
          subst hy'
          rw [← grB_snoc, ← hsn2] at ho2
          obtain ⟨M3, o3, s3⟩ := ho2.base hD
          simp (disch := omega)
          exact Rnd.mk'' M3 (j + 1, v2) s3 (by simp only; omega) (by (repeat (first | exact km | refine kp rfl ?_ | refine km' rfl ?_))) (by simp (disch := omega)) ⟨by simp only; omega, o3⟩
      · have hj' : j = r := by omega
        have htk : (balL i).take j = balL i := List.take_of_length_le (by omega)
        rw [htk] at ho1
        have e : grB (balL i) = balL (i + 1) := rfl
        rw [e] at ho1
        obtain ⟨M3, o3, s3⟩ := ho1.base ho.sub
        simp (disch := omega)
        exact Rnd.mk'' M3 (i + 1, v1) s3 (by simp only; omega) (by (repeat (first | exact km | refine kp rfl ?_ | refine km' rfl ?_))) (by simp (disch := omega)) ⟨by simp only; omega, o3⟩
    · have hi' : i = n := by omega
      subst hi'
      simp (disch := omega)
      exact ret_of (h v M' ho)
  · rw [decide_eq_false h1] at h
    rw [decide_eq_false h1]
    simp (disch := omega)
    exact ret_of (h _ _ (Own.nil _))
theorem impl_wordsL_does (m k L : Nat) (l : Int) (hlL : l = L) (hL : L ≤ 100000) (hL1 : 1 ≤ L) (M : Mem) (R : Value → Mem → Prop) (hm : m ≤ 60) (hk : 1 ≤ k) (hk' : k ≤ 5)
    (h1 : k ^ m ≤ L → ∀ v M', Own M v (strs (allW k m)) M' → R (.tuple #[v, .bool true]) M') (h0 : L < k ^ m → R (.tuple #[.slice none 0 0, .bool false]) M) : Does Tryz.prog 113 [.int .i64 m, .int .i64 k, .int .i64 l] M R := by
  subst hlL
  refine does_fn tab_ok Tryz.func113 rfl (by kernel_rfl) (by kernel_rfl) Tryz.ntmps113 Tryz.results113 rfl ?_
  simp (disch := omega)
  intro b0 hb0
  simp (disch := omega)
  refine loop_to tab_ok [6, 7, 8, 9, 11, 12, 15, 16, 17, 18, 19, 20, 21, 22, 23, 24, 25, 26, 27, 28, 29, 30, 31, 32, 33, 34, 35, 36, 37, 38, 39, 40, 41] (fun x : Nat × Value => [(15, .int .i64 x.1), (8, x.2)]) (fun x M' => x.1 ≤ m ∧ k ^ x.1 ≤ L ∧ Own M x.2 (strs (allW k x.1)) M') (fun x => m - x.1) (0, .slice (some ⟨b0, 0, none⟩) 1 1) (by kernel_rfl) (by simp (disch := omega)) ⟨by omega, by simpa using hL1, Own.new hb0 rfl (Nat.le_refl 1)⟩ ?_
  rintro ⟨i, v⟩ M' g ⟨hi, hle, ho⟩
  simp only at hi hle ho
  obtain ⟨r, hr⟩ : ∃ r, r = k ^ i := ⟨_, rfl⟩
  rw [← hr] at hle
  by_cases hlt : i < m
  · obtain ⟨a, c, rfl, ha⟩ := ho.rd.opened
    have hl : (allW k i).length = r := by rw [hr]; exact allW_len k i
    rw [strs_length, hl] at ha ho ⊢
    simp (disch := omega)
    refine loop_to tab_ok [9, 11, 12, 19, 20, 21, 22, 23, 24, 25, 26, 27, 28, 29, 30, 31, 32, 33, 34, 35] (fun x : Nat × Value => [(19, .int .i64 x.1), (9, x.2)]) (fun x M1 => x.1 ≤ r ∧ Own M' x.2 (strs (growA ((allW k i).take x.1) k)) M1) (fun x => r - x.1) (0, .slice none 0 0) (by kernel_rfl) (by simp (disch := omega)) ⟨by omega, Own.nil _⟩ ?_
    rintro ⟨j, v1⟩ M1 g1 ⟨hj, ho1⟩
    simp only at hj ho1
    by_cases hjl : j < r
    · rcases ha with h0 | ⟨b, o, rfl, ha⟩
      · omega
      have hjl' : j < (allW k i).length := by omega
      have hx : (allW k i)[j]? = some (allW k i)[j] := List.getElem?_eq_getElem hjl'
      obtain ⟨w, hw⟩ : ∃ w, (allW k i)[j] = w := ⟨_, rfl⟩
      have hwl : w.length = i := by rw [← hw]; exact allW_word k i _ (List.getElem_mem hjl')
      have hg0 := ha j hjl
      rw [strs_get, hx, hw] at hg0
      have hg : M1.get? b (o + j) = some (str w) := by
        have e : M'.get? b (o + j) = some (str w) := hg0
        unfold Mem.get? at e ⊢
        cases hMb : M' b with
        | none => rw [hMb] at e; cases e
        | some B => rw [hMb] at e; rw [ho1.sub _ _ hMb]; exact e
      simp (disch := omega) [hg]
      refine loop_to tab_ok [9, 12, 24, 25, 26, 27, 28, 29, 30, 31, 32, 33, 34] (fun x : Nat × Value => [(24, .int .i64 x.1), (9, x.2)]) (fun x M2 => x.1 ≤ k ∧ Own M' x.2 (strs (growA ((allW k i).take j) k ++ grow1 w x.1)) M2) (fun x => k - x.1) (0, v1) (by kernel_rfl) (by simp (disch := omega)) ⟨by omega, by simpa [grow1] using ho1⟩ ?_
      rintro ⟨y, v2⟩ M2 g2 ⟨hy, ho2⟩
      simp only at hy ho2
      by_cases hyl : y < k
      · have hcnt : (growA ((allW k i).take j) k ++ grow1 w y).length ≤ 2000000 := by
          rw [List.length_append, growA_len, List.length_take]
          have h1 : min j (allW k i).length * k ≤ 100000 * 5 := Nat.mul_le_mul (by omega) hk'
          have h2 : (grow1 w y).length = y := by simp [grow1]
          omega
        simp (disch := omega)
        refine letterN_does y _ _ (by omega) ?_
        simp (disch := omega)
        intro b' hb'
        simp (disch := omega)
        refine app_own ho2 ((Sub.refl _).put hb' _) (by simp (disch := omega); rfl) rfl rfl (by omega) (by simp (disch := omega)) (by simp (disch := omega); simp only [List.length_append] at hcnt; omega) ?_
        intro v' M'' N'' ho' hs'
        simp (disch := omega)
        refine Rnd.mk'' M'' (y + 1, v') hs' (by simp only; omega) (by (repeat (first | exact km | refine kp rfl ?_ | refine km' rfl ?_))) (by simp (disch := omega)) ⟨by simp only; omega, ?_⟩
        simp only
        rw [grow1_succ, ← List.append_assoc, ← strs_snoc]
        exact ho'
      · have hy' : y = k := by omega
        subst hy'
        simp (disch := omega)
        refine Rnd.mk' (j + 1, v2) (by simp only; omega) (by (repeat (first | exact km | refine kp rfl ?_ | refine km' rfl ?_))) (by simp (disch := omega)) ⟨by simp only; omega, ?_⟩
        simp only
        rw [take_snoc _ hjl', hw, growA_snoc]
        exact ho2
    · have hj' : j = r := by omega
      have htk : (allW k i).take j = allW k i := List.take_of_length_le (by omega)
      rw [htk] at ho1
      have e : growA (allW k i) k = allW k (i + 1) := rfl
      rw [e] at ho1
      have hl2 := allW_len k (i + 1)
      have hp : k ^ (i + 1) ≤ 500000 := by
        rw [Nat.pow_succ, ← hr]
        exact Nat.mul_le_mul (by omega : r ≤ 100000) hk'
      have ho3 := ho1.base ho.sub
      obtain ⟨a2, c2, rfl, ha2⟩ := ho1.rd.opened
      rw [strs_length, hl2] at ho3 ⊢
      by_cases hbig : (L : Int) < (k ^ (i + 1) : Nat)
      · have hmon : k ^ (i + 1) ≤ k ^ m := Nat.pow_le_pow_right hk (by omega)
        obtain ⟨q, hq⟩ : ∃ q, q = k ^ (i + 1) := ⟨_, rfl⟩
        rw [← hq] at hbig ⊢
        simp (disch := omega) [hbig]
        exact ret_sub (ho.sub.trans ho1.sub) (h0 (by omega))
      · obtain ⟨q, hq⟩ : ∃ q, q = k ^ (i + 1) := ⟨_, rfl⟩
        rw [← hq] at hbig ho3 ⊢
        simp (disch := omega) [hbig]
        obtain ⟨M3, o3, s3⟩ := ho3
        refine Rnd.mk'' M3 (i + 1, .slice a2 q c2) s3 (by simp only; omega) (by (repeat (first | exact km | refine kp rfl ?_ | refine km' rfl ?_))) (by simp (disch := omega)) ⟨by simp only; omega, by rw [← hq]; omega, o3⟩
  · have hi' : i = m := by omega
    subst hi'
    simp (disch := omega)
    exact ret_of (h1 (by rw [← hr]; exact hle) v M' ho)
theorem balanced1_tells (ss : List (List UInt8)) (hs : ∀ u ∈ ss, u.length ≤ 10 ∧ AB u) : TellsS Tryz.prog (.func (.func 115) #[] #[]) ss (fun u => !balB2 u) := by
  intro u hu M R h
  have h : ∀ M', Sub M M' → R (.bool (!balB2 u)) M' := h
  obtain ⟨h10, hab⟩ := hs u hu
  have hw : isWord u = true := by
    unfold isWord
    rw [Bool.and_eq_true, decide_eq_true_eq, List.all_eq_true]
    refine ⟨by omega, fun c hc => ?_⟩
    rcases hab c hc with rfl | rfl <;> rfl
  have hb := bal_is hab
  simp (disch := omega)
  refine does_fn tab_ok Tryz.func115 rfl (by kernel_rfl) (by kernel_rfl) Tryz.ntmps115 Tryz.results115 rfl ?_
  simp (disch := omega)
  refine balance_does u _ _ hw ?_
  intro M' hs
  simp only [← hb] at h
  generalize balM u u.length = q at *
  simp (disch := omega)
  refine ret_of ?_
  have e : decide (1 < q) = !decide (q ≤ 1) := by
    by_cases h1 : q ≤ 1
    · rw [decide_eq_true h1]; exact decide_eq_false (by omega)
    · rw [decide_eq_false h1]; exact decide_eq_true (by omega)
  rw [e]
  exact h _ hs
theorem impl_BalancedWords (n : Int) (M : Mem) (R : Value → Mem → Prop) (h : Lst (balC n) (strs (balR n)) M R) : Does Tryz.prog 53 [.int .i64 n] M R := by
  unfold balC balR inB at h
  refine does_fn tab_ok Tryz.func53 rfl (by kernel_rfl) (by kernel_rfl) Tryz.ntmps53 Tryz.results53 rfl ?_
  simp (disch := omega)
  refine within_does n 0 10 _ _ ?_
  by_cases h1 : 0 ≤ n ∧ n ≤ 10
  · rw [decide_eq_true h1, if_pos rfl, if_pos rfl] at h
    rw [decide_eq_true h1]
    obtain ⟨n, rfl⟩ : ∃ k : Nat, n = k := ⟨n.toNat, by omega⟩
    rw [Int.toNat_natCast] at h
    simp (disch := omega)
    have hp := pow2_le (show n ≤ 10 by omega)
    refine impl_wordsL_does n 2 1024 1024 rfl (by omega) (by omega) _ _ (by omega) (by omega) (by omega) ?_ (fun hh => by omega)
    intro _ v M1 o1
    simp (disch := omega)
    refine deleteFunc_does v _ (allW 2 n) (fun u => !balB2 u) _ _ _ o1 (balanced1_tells _ fun u hu => ⟨by rw [allW_word 2 n u hu]; omega, allW_ab n u hu⟩) (by rw [allW_len]; omega) ?_
    intro v' M' o
    have e : (allW 2 n).filter (fun u => !(fun u => !balB2 u) u) = balL n := by
      rw [balL_is]
      simp
    rw [e] at o
    simp (disch := omega)
    exact ret_of (h v' M' o)
  · rw [decide_eq_false h1] at h
    rw [decide_eq_false h1]
    simp (disch := omega)
    exact ret_of (h _ _ (Own.nil _))
end Go.Proofs.YticejlplbibegaaGreatDoor

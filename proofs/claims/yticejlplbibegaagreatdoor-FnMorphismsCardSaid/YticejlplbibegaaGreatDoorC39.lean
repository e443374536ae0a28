/- Contracts: slices.DeleteFunc of strings. -/
import Derived.Test.YticejlplbibegaaGreatDoorC21
import Derived.Test.YticejlplbibegaaGreatDoorC17
namespace Go.Proofs.YticejlplbibegaaGreatDoor
open Go
set_option linter.unusedSimpArgs false
set_option linter.unusedVariables false

/-- Less is told: of fewer blocks, or of fewer cells. -/
def Less (A B : Mem) : Prop := ∀ b X, A b = some X → ∃ Y, B b = some Y ∧ (X = Y ∨ ∃ own xs ys tot, X = .cells own xs tot ∧ Y = .cells own (xs ++ ys) tot)
theorem Less.rep {A B : Mem} {w : World} (h : Less A B) (hw : Rep B w) : Rep A w := by
  intro b X hX
  obtain ⟨Y, hY, e⟩ := h b X hX
  have hold := hw b Y hY
  rcases e with rfl | ⟨own, xs, ys, tot, rfl, rfl⟩
  · exact hold
  · obtain ⟨c, e, fr, h1, h2, ⟨zs, h3⟩, h4⟩ := hold
    exact ⟨c, e, fr, h1, h2, ⟨ys ++ zs, by rw [h3, List.append_assoc]⟩, h4⟩
theorem Less.owns {A B : Mem} {b : Nat} (h : Less A B) (ho : owns A b) : owns B b := by
  obtain ⟨X, hX, o⟩ := ho
  obtain ⟨Y, hY, e⟩ := h b X hX
  rcases e with rfl | ⟨own, xs, ys, tot, rfl, rfl⟩
  · exact ⟨_, hY, o⟩
  · exact ⟨_, hY, o⟩
theorem Sub.less {A B : Mem} (h : Sub A B) : Less A B := fun b X hX => ⟨X, h b X hX, .inl rfl⟩
theorem Does.less {P : Program} {f : FuncId} {args : List Value} {M : Mem} {R R' : Value → Mem → Prop} (h : Does P f args M R') (hr : ∀ v M', R' v M' → ∃ M'', Less M'' M' ∧ R v M'') : Does P f args M R :=
  ⟨h.1, fun w hw => (h.2 w hw).mono fun _ _ ⟨v, M', h1, h2, h3, h4⟩ => by
    obtain ⟨M'', hl, hR⟩ := hr v M' h4
    exact ⟨v, M'', h1, hl.rep h2, ⟨h3.os, h3.tape, h3.output, h3.size, h3.block, fun b hb => h3.own b (hl.owns hb)⟩, hR⟩⟩
/-- A function value that tells p of strings; memory may grow. -/
def TellsS (P : Program) (fv : Value) (ss : List (List UInt8)) (p : List UInt8 → Bool) : Prop :=
  ∀ u ∈ ss, ∀ M R, (∀ M', Sub M M' → R (.bool (p u)) M') → vCallV P fv [str u] R M
theorem idxG_does (v fv : Value) (ss : List (List UInt8)) (p : List UInt8 → Bool) (M : Mem) (R : Value → Mem → Prop) (hv : Rd M v (strs ss)) (hf : TellsS Tryz.prog fv ss p) (hl : ss.length ≤ 1000000)
    (h1 : ∀ (r : Nat) M', Sub M M' → (hr : r < ss.length) → (∀ x ∈ ss.take r, p x = false) → p ss[r] = true → R (.int .i64 r) M') (h0 : ∀ M', Sub M M' → (∀ x ∈ ss, p x = false) → R (.int .i64 (-1)) M') : Does Tryz.prog 149 [v, fv] M R := by
  refine does_fn tab_ok Tryz.func149 rfl (by kernel_rfl) (by kernel_rfl) Tryz.ntmps149 Tryz.results149 rfl ?_
  obtain ⟨a, c, rfl, ha⟩ := hv.opened
  rw [strs_length] at ha ⊢
  simp (disch := omega)
  refine loop_to tab_ok [4, 5, 8, 9, 10, 11, 12, 13, 14, 15, 16, 17, 18] (fun i : Nat => [(8, .int .i64 i)]) (fun i M' => Sub M M' ∧ i ≤ ss.length ∧ ∀ x ∈ ss.take i, p x = false) (fun i => ss.length - i) 0 (by kernel_rfl) (by simp (disch := omega)) ⟨Sub.refl M, by omega, by simp⟩ ?_
  rintro i M' g ⟨hs, hi, hp⟩
  by_cases hlt : i < ss.length
  · rcases ha with hz | ⟨b, o, rfl, ha⟩
    · omega
    have hg := ha i hlt
    rw [strs_get, List.getElem?_eq_getElem hlt] at hg
    have hg' := get_keep hg hs
    have hmem := List.getElem_mem hlt
    have htk := take_snoc ss hlt
    obtain ⟨u, hu⟩ : ∃ u, ss[i] = u := ⟨_, rfl⟩
    rw [hu] at hg' hmem htk
    simp (disch := omega) [hg']
    refine hf u hmem _ _ ?_
    intro M2 s2
    cases hpu : p u
    · simp (disch := omega)
      refine Rnd.mk' (i + 1) (by omega) (by (repeat (first | exact km | refine kp rfl ?_ | refine km' rfl ?_))) (by simp (disch := omega)) ⟨hs.trans s2, by omega, ?_⟩
      rw [htk]
      intro x hx
      rcases List.mem_append.1 hx with h | h
      · exact hp x h
      · rw [List.mem_singleton.1 h]; exact hpu
    · simp (disch := omega)
      exact ret_of (h1 i _ (hs.trans s2) hlt hp (by rw [hu]; exact hpu))
  · have hi' : i = ss.length := by omega
    subst hi'
    rw [List.take_length] at hp
    simp (disch := omega)
    exact ret_of (h0 _ hs hp)
theorem deleteFunc_does (v fv : Value) (ss : List (List UInt8)) (p : List UInt8 → Bool) (M0 M : Mem) (R : Value → Mem → Prop) (ho : Own M0 v (strs ss) M) (hf : TellsS Tryz.prog fv ss p) (hl : ss.length ≤ 1000000)
    (h : ∀ v' M', Own M0 v' (strs (ss.filter fun u => !p u)) M' → R v' M') : Does Tryz.prog 114 [v, fv] M R := by
  have hv := ho.rd
  rcases ho with ⟨rfl, he, rfl⟩ | ⟨b, c, rfl, hb, hc, rfl⟩
  · have hss : ss = [] := by
      have := congrArg List.length he
      rw [strs_length] at this
      exact List.eq_nil_of_length_eq_zero this
    subst hss
    refine does_fn tab_ok Tryz.func114 rfl (by kernel_rfl) (by kernel_rfl) Tryz.ntmps114 Tryz.results114 rfl ?_
    simp (disch := omega)
    refine idxG_does _ _ [] p _ _ hv hf (by simp) (fun r M' _ hr => by simp at hr) ?_
    intro M' hs _
    simp (disch := omega)
    exact ret_sub hs (h _ _ (Own.nil _))
  · rw [strs_length] at hc hv ⊢
    have hkeep : ∀ M', Sub M0 M' → M' b = some (.cells true (strs ss) c) → (∀ x ∈ ss, p x = false) → ∃ M'', Less M'' M' ∧ R (.slice (some ⟨b, 0, none⟩) ss.length c) M'' := by
      intro M' hs hM hp
      have e : ss.filter (fun u => !p u) = ss := List.filter_eq_self.2 fun x hx => by rw [hp x hx]; rfl
      rw [e] at h
      refine ⟨M0.put b (.cells true (strs ss) c), ?_, h _ _ (.inr ⟨b, c, by rw [strs_length], hb, by rw [strs_length]; exact hc, rfl⟩)⟩
      intro i X hX
      unfold Mem.put at hX
      split at hX
      · rename_i e; subst e; injection hX with hX; subst hX; exact ⟨_, hM, .inl rfl⟩
      · exact ⟨X, hs _ _ hX, .inl rfl⟩
    refine Does.less (R' := fun v' M' => (v' = .slice (some ⟨b, 0, none⟩) ss.length c ∧ Sub M0 M' ∧ M' b = some (.cells true (strs ss) c) ∧ ∀ x ∈ ss, p x = false) ∨
      ∃ L, v' = .slice (some ⟨b, 0, none⟩) (ss.filter fun u => !p u).length c ∧ Sub M0 M' ∧ M' b = some (.cells true (strs ((ss.filter fun u => !p u) ++ L)) c)) ?_ ?_
    · have hk : (M0.put b (.cells true (strs ss) c)) b = some (.cells true (strs ss) c) := put_same _ _ _
      have hs0 : Sub M0 (M0.put b (.cells true (strs ss) c)) := (Sub.refl _).put hb _
      generalize M0.put b (.cells true (strs ss) c) = N at *
      refine does_fn tab_ok Tryz.func114 rfl (by kernel_rfl) (by kernel_rfl) Tryz.ntmps114 Tryz.results114 rfl ?_
      simp (disch := omega)
      refine idxG_does _ _ ss p _ _ hv hf hl ?_ ?_
      · intro r N1 s1 hr hno hyes
        have hr1 : ¬ (r : Int) = -1 := by omega
        have hk1 := s1 _ _ hk
        simp (disch := omega) [hr1]
        refine loop_to tab_ok [5, 6, 7, 16, 17, 18, 19, 20, 21, 22, 23, 24, 25, 26, 27, 28, 29, 30, 31, 32, 33, 34, 35] (fun x : Nat × Nat × List (List UInt8) => [(5, .int .i64 x.1), (6, .int .i64 x.2.1)]) (fun x M' => x.1 < x.2.1 ∧ x.2.1 ≤ ss.length ∧ x.2.2.length = ss.length ∧ x.2.2.take x.1 = (ss.take x.2.1).filter (fun u => !p u) ∧ x.2.2.drop x.2.1 = ss.drop x.2.1 ∧ M' b = some (.cells true (strs x.2.2) c) ∧ Sub M0 M') (fun x => ss.length - x.2.1) (r, r + 1, ss) (by kernel_rfl) (by simp (disch := omega)) ⟨by simp only; omega, by simp only; omega, rfl, ?_, rfl, hk1, hs0.trans s1⟩ ?_
        · simp only
          rw [take_snoc ss hr, List.filter_append, List.filter_eq_self.2 (fun x hx => by rw [hno x hx]; rfl)]
          simp [hyes]
        rintro ⟨i, j, L⟩ M' g ⟨hij, hj, hL, htk, hdr, hM, hs⟩
        simp only at hij hj hL htk hdr hM hs
        by_cases hlt : j < ss.length
        · have hx : L[j]? = some ss[j] := by
            have := congrArg (fun l => l[0]?) hdr
            simp only [List.getElem?_drop, Nat.add_zero] at this
            rw [this, List.getElem?_eq_getElem hlt]
          have hg : M'.get? b j = some (str ss[j]) := by rw [get_of hM, strs_get, hx]; rfl
          have hmem := List.getElem_mem hlt
          have htj := take_snoc ss hlt
          have hd2 : L.drop (j + 1) = ss.drop (j + 1) := by rw [← List.drop_drop, hdr, List.drop_drop]
          generalize ss[j] = u at *
          simp (disch := omega) [hg]
          refine hf u hmem _ _ ?_
          intro M2 s2
          have hM2 := s2 _ _ hM
          cases hpu : p u
          · simp (disch := omega) [hM2, strs_set]
            refine Rnd.mk' (i + 1, j + 1, L.set i u) (by simp only; omega) (by (repeat (first | exact km | refine kp rfl ?_ | refine km' rfl ?_))) (by simp (disch := omega)) ⟨by simp only; omega, by simp only; omega, by simp only [List.length_set]; omega, ?_, ?_, ?_, (hs.trans s2).set hb _⟩
            · simp only
              rw [htj, List.filter_append, ← htk]
              have e : [u].filter (fun u => !p u) = [u] := by simp [hpu]
              rw [e]
              have hi : i < (L.set i u).length := by rw [List.length_set]; omega
              rw [take_snoc _ hi, List.take_set_of_le (Nat.le_refl i), List.getElem_set_self]
            · simp only
              rw [List.drop_set_of_lt (by omega), hd2]
            · simp only
              rw [set_is]; exact put_same _ _ _
          · simp (disch := omega)
            refine Rnd.mk' (i, j + 1, L) (by simp only; omega) (by (repeat (first | exact km | refine kp rfl ?_ | refine km' rfl ?_))) (by simp (disch := omega)) ⟨by simp only; omega, by simp only; omega, hL, ?_, hd2, hM2, hs.trans s2⟩
            simp only
            rw [htj, List.filter_append, ← htk]
            simp [hpu]
        · have hj' : j = ss.length := by omega
          subst hj'
          rw [List.take_length] at htk
          have hil : i = (ss.filter fun u => !p u).length := by rw [← htk, List.length_take]; omega
          simp (disch := omega) [hM]
          obtain ⟨d, hd⟩ : ∃ d, ss.length - i = d + 1 := ⟨ss.length - i - 1, by omega⟩
          rw [hd]
          show vClrB (M' b) b i (d + 1) (str []) _ M'
          rw [hM]
          refine ⟨⟨by rw [strs_length]; omega, rfl⟩, ?_⟩
          have e : (strs L).take i ++ List.replicate (d + 1) (str []) ++ (strs L).drop (i + (d + 1)) = strs ((ss.filter fun u => !p u) ++ List.replicate (d + 1) []) := by
            rw [List.drop_of_length_le (by rw [strs_length]; omega), List.append_nil, ← htk]
            simp [strs]
          rw [e, hil]
          simp (disch := omega)
          exact ret_of (.inr ⟨rfl, hs.set hb _, _, by rw [set_is]; exact put_same _ _ _⟩)
      · intro N1 s1 hno
        simp (disch := omega)
        exact ret_of (.inl ⟨rfl, hs0.trans s1, s1 _ _ hk, hno⟩)
    · rintro v' M' (⟨rfl, hs, hM, hp⟩ | ⟨L, rfl, hs, hM⟩)
      · exact hkeep M' hs hM hp
      · have hle : (ss.filter fun u => !p u).length ≤ ss.length := List.length_filter_le _ _
        refine ⟨M0.put b (.cells true (strs (ss.filter fun u => !p u)) c), ?_, h _ _ (.inr ⟨b, c, by rw [strs_length], hb, by rw [strs_length]; omega, rfl⟩)⟩
        intro i X hX
        unfold Mem.put at hX
        split at hX
        · rename_i e; subst e; injection hX with hX; subst hX; exact ⟨_, hM, .inr ⟨true, _, strs L, c, rfl, by rw [strs_append]⟩⟩
        · exact ⟨X, hs _ _ hX, .inl rfl⟩
end Go.Proofs.YticejlplbibegaaGreatDoor

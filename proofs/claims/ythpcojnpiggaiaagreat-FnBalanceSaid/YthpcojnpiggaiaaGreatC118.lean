/- Contracts: AbelianComplexity, of both. -/
import Derived.Test.YthpcojnpiggaiaaGreatCQ
import Derived.Test.YthpcojnpiggaiaaGreatC81
import Derived.Test.YthpcojnpiggaiaaGreatCH
namespace Go.Proofs.YthpcojnpiggaiaaGreat
open Go
set_option linter.unusedSimpArgs false
set_option linter.unusedVariables false

/-- The different vectors of factors of a length (told by their first words). -/
def acL (w : List UInt8) (m : Nat) : List (List UInt8) := srt ((segsA w m (w.length - m + 1)).map srtL)
theorem mem_srt9 (l : List (List UInt8)) (x : List UInt8) : x ∈ srt l ↔ x ∈ l := by
  rw [← putAll_srt, mem_putAll]; simp
theorem acL_fac {w : List UInt8} {m : Nat} (hm : m ≤ w.length) : srt ((facL w m).map srtL) = acL w m := by
  refine strictW_same (srt_strict _) (srt_strict _) fun x => ?_
  unfold acL
  rw [mem_srt9, mem_srt9, List.mem_map, List.mem_map]
  unfold facL
  rw [if_pos hm]
  constructor
  · rintro ⟨u, h1, h2⟩; exact ⟨u, (mem_srt9 _ _).1 h1, h2⟩
  · rintro ⟨u, h1, h2⟩; exact ⟨u, (mem_srt9 _ _).2 h1, h2⟩
theorem acL_len (w : List UInt8) (m : Nat) : (acL w m).length ≤ w.length + 1 := by
  unfold acL
  rw [← putAll_srt]
  have := putAll_len ((segsA w m (w.length - m + 1)).map srtL) []
  rw [List.length_map, segsA_length] at this
  simp only [List.length_nil] at this
  omega
theorem segsA_len9 {w : List UInt8} (hw : w.length ≤ 60) {m n : Nat} : ∀ u ∈ segsA w m n, u.length ≤ 60 := by
  intro u hu
  obtain ⟨t, _, rfl⟩ := List.mem_map.1 hu
  unfold seg
  rw [List.length_drop, List.length_take]
  omega
def acR (w : List UInt8) (n : Nat) : List Int := (List.range n).map fun m => ((acL w m).length : Int)
theorem acR_snoc (w : List UInt8) (n : Nat) : acR w (n + 1) = acR w n ++ [((acL w n).length : Int)] := by simp [acR, List.range_succ]
theorem acR_len (w : List UInt8) (n : Nat) : (acR w n).length = n := by simp [acR]
theorem impl_AbelianComplexity (w : List UInt8) (M : Mem) (R : Value → Mem → Prop) (hl : w.length ≤ 1099511627776) (h : ∀ v M', Sub M M' → Rd M' v (ints (if isWord w then acR w (w.length + 1) else [])) → R (tup2 v (wcode w)) M') : Does Tryz.prog 34 [str w] M R := by
  refine does_fn tab_ok Tryz.func34 rfl (by kernel_rfl) (by kernel_rfl) Tryz.ntmps34 Tryz.results34 rfl ?_
  simp (disch := omega)
  intro b1 hb1
  simp (disch := omega)
  have hs1 : Sub M (M.put b1 (.cells true [str w] 1)) := (Sub.refl _).put hb1 _
  refine wordCode_does _ _ [w] true (fun _ => True) _ _ (Rd.new rfl (Nat.le_refl 1)) (fine1 hl) (by simp) trivial stab_true (always_tells _) ?_
  rw [codeOf1]
  unfold tup2 wcode at h
  cases hw : isWord w
  · rw [hw] at h
    simp (disch := omega)
    exact ret_of (h _ _ hs1 (.inl ⟨none, 0, rfl, rfl⟩))
  · rw [hw] at h
    have h60 := isWord_len hw
    generalize M.put b1 (.cells true [str w] 1) = M0 at *
    simp (disch := omega)
    refine loop_to tab_ok [5, 6, 7, 9, 19, 20, 21, 22, 23, 24, 25, 26, 27, 28, 29, 30, 31, 32, 33, 34, 35, 36, 37, 38, 39, 40, 41, 42] (fun x : Nat × Value => [(19, .int .i64 (x.1 : Nat)), (5, x.2)]) (fun x N => x.1 ≤ w.length + 1 ∧ ∃ Mb, Sub M0 Mb ∧ Own Mb x.2 (ints (acR w x.1)) N) (fun x => w.length + 1 - x.1) (0, .slice none 0 0) (by kernel_rfl) (by simp (disch := omega)) ⟨by simp only; omega, M0, Sub.refl _, Own.nil _⟩ ?_
    rintro ⟨m, vo⟩ N g ⟨hm, Mb, sB, o⟩
    simp only at hm o
    have hal := acR_len w m
    by_cases hlt : m < w.length + 1
    · have hltI : (m : Int) < (w.length : Int) + 1 := by omega
      simp (disch := omega) [hltI]
      refine factorsL_does w m _ _ h60 (by omega) ?_
      intro vf N1 rf s1
      have hfl := facL_len h60 m
      have hfx : ∀ u ∈ facL w m, u.length ≤ 60 := fun u hu => by
        unfold facL at hu
        rw [if_pos (by omega)] at hu
        exact segsA_len9 h60 u ((mem_srt9 _ _).1 hu)
      have hacf := acL_fac (w := w) (m := m) (by omega)
      have hne : 1 ≤ (facL w m).length := by
        unfold facL
        rw [if_pos (by omega)]
        have : w.take m ∈ srt (segsA w m (w.length - m + 1)) := (mem_srt9 _ _).2 (List.mem_map.2 ⟨0, List.mem_range.2 (by omega), seg_zero w m⟩)
        exact List.length_pos_of_mem this
      have hacl := acL_len w m
      obtain ⟨af, cf, hve, haf⟩ := rf.opened
      rw [strs_length] at hve haf
      subst hve
      generalize facL w m = F at *
      rcases haf with h0 | ⟨bf, of, rfl, haf⟩
      · omega
      simp (disch := omega)
      refine loop_to tab_ok [7, 9, 26, 27, 28, 29, 30, 31, 32, 33, 34, 35] (fun x : Nat × Value => [(26, .int .i64 (x.1 : Nat)), (7, x.2)]) (fun x N' => x.1 ≤ F.length ∧ ∃ Mc, Sub N1 Mc ∧ ∃ No, Own Mc x.2 (strs ((F.take x.1).map srtL)) No ∧ Sub No N') (fun x => F.length - x.1) (0, .slice none 0 0) (by kernel_rfl) (by simp (disch := omega)) ⟨Nat.zero_le _, N1, Sub.refl _, N1, Own.nil _, Sub.refl _⟩ ?_
      rintro ⟨i, vi⟩ N' g2 ⟨hi, Mc, sc, No, oi, si⟩
      simp only at hi oi
      by_cases hiF : i < F.length
      · have hg0 := haf i hiF
        rw [strs_get, List.getElem?_eq_getElem hiF] at hg0
        have hg := sub_getk hg0 ((sc.trans oi.sub).trans si)
        have hui := hfx _ (List.getElem_mem hiF)
        have hst : (F.take (i + 1)).map srtL = (F.take i).map srtL ++ [srtL F[i]] := by rw [take_snoc F hiF, List.map_append]; rfl
        have htl : ((F.take i).map srtL).length ≤ 61 := by rw [List.length_map, List.length_take]; omega
        generalize (F.take i).map srtL = T at *
        generalize F[i] = u at *
        simp (disch := omega) [hg]
        refine sortedWord_does u _ _ hui ?_
        intro N2 s2
        simp (disch := omega)
        intro b' hb'
        simp (disch := omega)
        refine app_own oi ((si.trans s2).trans ((Sub.refl _).put hb' _)) (by simp (disch := omega); rfl) rfl rfl (by omega) (by simp (disch := omega)) (by simp (disch := omega); omega) ?_
        intro v' M'' N'' o' s'
        rw [strs_snoc, ← hst] at o'
        simp (disch := omega)
        refine Rnd.mk' (i + 1, v') (by simp only; omega) (by (repeat (first | exact km | refine kp rfl ?_ | refine km' rfl ?_))) (by simp (disch := omega)) ⟨by simp only; omega, Mc, sc, M'', by first | exact o' | (show Own Mc v' (strs (List.take (i + 1) (List.map srtL F))) M''; rw [← List.map_take]; exact o'), s'⟩
      · have hiE : i = F.length := by omega
        subst hiE
        rw [List.take_length] at oi
        simp (disch := omega)
        refine (sorted_does vi _ Mc No _ oi (by rw [List.length_map]; exact hne) (by rw [List.length_map]; omega) ?_).weaken si
        intro v3 N3 r3 s3
        rw [hacf] at r3
        obtain ⟨a3, c3, hve, _⟩ := r3.opened
        rw [strs_length] at hve
        subst hve
        have sNN : Sub N N3 := (s1.trans sc).trans s3
        simp (disch := omega)
        intro b' hb'
        simp (disch := omega)
        refine app_own o (sNN.trans ((Sub.refl _).put hb' _)) (by simp (disch := omega); rfl) rfl rfl (by omega) (by simp (disch := omega)) (by simp (disch := omega); omega) ?_
        intro v' M'' N'' o' s'
        rw [ints_snoc, ← acR_snoc] at o'
        simp (disch := omega)
        refine Rnd.mk'' M'' (m + 1, v') s' (by simp only; omega) (by (repeat (first | exact km | refine kp rfl ?_ | refine km' rfl ?_))) (by simp (disch := omega)) ⟨by simp only; omega, Mb, sB, o'⟩
    · have hltI : ¬ (m : Int) < (w.length : Int) + 1 := by omega
      have hmE : m = w.length + 1 := by omega
      subst hmE
      simp (disch := omega) [hltI]
      exact ret_of (h _ N ((hs1.trans sB).trans o.sub) o.rd)
theorem spec_AbelianComplexity (w : List UInt8) (M : Mem) (R : Value → Mem → Prop) (hl : w.length ≤ 1099511627776) (h : ∀ v M', Sub M M' → Rd M' v (ints (if isWord w then acR w (w.length + 1) else [])) → R (tup2 v (wcode w)) M') : Does Tryz.prog 35 [str w] M R := by
  refine does_fn tab_ok Tryz.func35 rfl (by kernel_rfl) (by kernel_rfl) Tryz.ntmps35 Tryz.results35 rfl ?_
  simp (disch := omega)
  refine l01Is_does w _ _ hl ?_
  unfold tup2 wcode at h
  cases hw : isWord w
  · rw [hw] at h
    simp (disch := omega)
    exact ret_of (h _ _ (Sub.refl M) (.inl ⟨none, 0, rfl, rfl⟩))
  · rw [hw] at h
    have h60 := isWord_len hw
    have hall := isWord_all hw
    simp (disch := omega)
    intro b0 hb0
    have o0 := Own.new (M := M) (xs := ints (acR w 0)) (n := 0) (c := 0) hb0 rfl (Nat.le_refl 0)
    have e0 : ints (acR w 0) = [] := rfl
    rw [e0] at o0
    simp (disch := omega)
    refine loop_to tab_ok [4, 5, 6, 7, 12, 13, 14, 15, 16, 17, 18, 19, 20, 21, 22, 23, 24, 25, 26, 27, 28, 29, 30, 31, 32, 33, 34, 35, 36, 37, 38, 39, 40, 41] (fun x : Nat × Value => [(5, .int .i64 (x.1 : Nat)), (4, x.2)]) (fun x N => x.1 ≤ w.length + 1 ∧ ∃ Mb, Sub M Mb ∧ Own Mb x.2 (ints (acR w x.1)) N) (fun x => w.length + 1 - x.1) (0, .slice (some ⟨b0, 0, none⟩) 0 0) (by kernel_rfl) (by simp (disch := omega)) ⟨by simp only; omega, M, Sub.refl _, o0⟩ ?_
    rintro ⟨m, vo⟩ N g ⟨hm, Mb, sB, o⟩
    simp only at hm o
    have hal := acR_len w m
    by_cases hlt : m ≤ w.length
    · have hltI : (m : Int) ≤ (w.length : Int) := by omega
      simp (disch := omega) [hltI]
      intro b1 hb1
      have s1 := (Sub.refl N).put hb1 (.cells true [] 0)
      have r1 : RdN (N.put b1 (.cells true [] 0)) (.slice (some ⟨b1, 0, none⟩) 0 0) (strs (putAll [] ((segsA w m 0).map srtL))) := ⟨b1, 0, 0, rfl, by
        show Mem.sub? _ b1 0 0 = some []
        unfold Mem.sub?
        rw [put_same]
        rfl, Nat.le_refl 0⟩
      simp (disch := omega)
      refine loop_to tab_ok [6, 7, 19, 20, 21, 22, 23, 24, 25, 26, 27, 28, 29, 30, 31, 32, 33, 34, 35, 36] (fun x : Nat × Value => [(7, .int .i64 (x.1 : Nat)), (6, x.2)]) (fun x N' => x.1 ≤ w.length - m + 1 ∧ Sub N N' ∧ RdN N' x.2 (strs (putAll [] ((segsA w m x.1).map srtL)))) (fun x => w.length - m + 1 - x.1) (0, .slice (some ⟨b1, 0, none⟩) 0 0) (by kernel_rfl) (by simp (disch := omega)) ⟨Nat.zero_le _, s1, r1⟩ ?_
      rintro ⟨i, vi⟩ N' g2 ⟨hi, sN, ri⟩
      simp only at hi ri
      have hpl := putAll_len ((segsA w m i).map srtL) []
      rw [List.length_map, segsA_length] at hpl
      simp only [List.length_nil] at hpl
      by_cases him : i + m ≤ w.length
      · have himI : (i : Int) + m ≤ (w.length : Int) := by omega
        have hst : putAll [] ((segsA w m (i + 1)).map srtL) = putL (putAll [] ((segsA w m i).map srtL)) (srtL (seg w i m)) := by rw [segsA_succ, List.map_append, ← putAll_snoc]; rfl
        have hsg : seg w i m = (w.take (i + m)).drop i := rfl
        have hsl : (seg w i m).length ≤ 60 := by rw [hsg, List.length_drop, List.length_take]; omega
        have hsa : (seg w i m).all isL = true := by
          rw [List.all_eq_true]
          intro u hu
          exact List.all_eq_true.1 hall u (List.mem_of_mem_take (List.mem_of_mem_drop hu))
        generalize putAll [] ((segsA w m i).map srtL) = L at *
        have htn : ((i : Int) + (m : Int)).toNat = i + m := by omega
        simp (disch := omega) [himI, htn]
        rw [← hsg]
        generalize seg w i m = u at *
        refine l01Count_does u _ _ (by omega) hsa ?_
        intro vc N2 o2
        simp (disch := omega)
        have r2 := o2.rd
        rw [counts_cN] at r2
        refine l07Sorted_does vc (cN u) _ _ rfl (cN_le hsl) r2 ?_
        rw [srt_vW hsa]
        intro N3 s3
        simp (disch := omega)
        refine l01Put_does vi L (srtL u) _ _ (ri.sub (o2.sub.trans s3)) (by omega) ?_
        intro v4 N4 s4 r4
        rw [← hst] at r4
        simp (disch := omega)
        refine Rnd.mk' (i + 1, v4) (by simp only; omega) (by (repeat (first | exact km | refine kp rfl ?_ | refine km' rfl ?_))) (by simp (disch := omega)) ⟨by simp only; omega, (sN.trans (o2.sub.trans s3)).trans s4, r4⟩
      · have himI : ¬ (i : Int) + m ≤ (w.length : Int) := by omega
        have hiE : i = w.length - m + 1 := by omega
        have hac : putAll [] ((segsA w m i).map srtL) = acL w m := by rw [hiE, putAll_srt]; rfl
        rw [hac] at ri
        have hacl := acL_len w m
        obtain ⟨bz, oz, cz, hve, _, _⟩ := ri
        rw [strs_length] at hve
        subst hve
        simp (disch := omega) [himI]
        intro b' hb'
        simp (disch := omega)
        refine app_own o (sN.trans ((Sub.refl _).put hb' _)) (by simp (disch := omega); rfl) rfl rfl (by omega) (by simp (disch := omega)) (by simp (disch := omega); omega) ?_
        intro v' M'' N'' o' s'
        rw [ints_snoc, ← acR_snoc] at o'
        simp (disch := omega)
        refine Rnd.mk'' M'' (m + 1, v') s' (by simp only; omega) (by (repeat (first | exact km | refine kp rfl ?_ | refine km' rfl ?_))) (by simp (disch := omega)) ⟨by simp only; omega, Mb, sB, o'⟩
    · have hltI : ¬ (m : Int) ≤ (w.length : Int) := by omega
      have hmE : m = w.length + 1 := by omega
      subst hmE
      simp (disch := omega) [hltI]
      exact ret_of (h _ N (sB.trans o.sub) o.rd)
end Go.Proofs.YthpcojnpiggaiaaGreat

/- Contracts: balances of words, of the program. -/
import Derived.Test.YticejlplbibegaaGreatDoorC31
import Derived.Test.YticejlplbibegaaGreatDoorC32
import Derived.Test.YticejlplbibegaaGreatDoorEB
namespace Go.Proofs.YticejlplbibegaaGreatDoor
open Go
set_option linter.unusedSimpArgs false
set_option linter.unusedVariables false

theorem ints_not_str {L : List Int} {k : Nat} {u : List UInt8} (h : (ints L)[k]? = some (str u)) : False := by
  rw [ints_get] at h
  cases hk : L[k]? with
  | none => rw [hk] at h; cases h
  | some x => rw [hk] at h; cases h
theorem Sub.del {M N : Mem} {b : Nat} (h : Sub M N) (hb : M b = none) : Sub M (N.del b) := by
  intro i B hi
  have hne : i ≠ b := by rintro rfl; rw [hb] at hi; cases hi
  simp only [Mem.del, if_neg hne]
  exact h _ _ hi
theorem del_sub (M : Mem) (b : Nat) : Sub (M.del b) M := by
  intro i B hi
  by_cases e : i = b
  · simp [Mem.del, e] at hi
  · simpa [Mem.del, e] using hi
theorem get_del {M : Mem} {b i k : Nat} (h : i ≠ b) : (M.del b).get? i k = M.get? i k := by simp [Mem.get?, Mem.del, h]
theorem balance_does (w : List UInt8) (M : Mem) (R : Value → Mem → Prop) (hw : isWord w = true) (h : ∀ M', Sub M M' → R (.int .i64 (balM w w.length)) M') : Does Tryz.prog 99 [str w] M R := by
  have h60 := isWord_len hw
  have hall := isWord_all hw
  refine does_fn tab_ok Tryz.func99 rfl (by kernel_rfl) (by kernel_rfl) Tryz.ntmps99 Tryz.results99 rfl ?_
  simp (disch := omega)
  refine loop_to tab_ok [3, 4, 5, 6, 8, 9, 10, 11, 15, 16, 17, 18, 19, 20, 21, 22, 23, 24, 25, 26, 27, 28, 29, 30, 31, 32, 33, 34, 35, 36, 37, 38, 39, 40, 41, 42, 43, 44, 45, 46, 47, 48, 49, 50, 51, 52, 53, 54, 55, 56, 57, 58, 59, 60, 61, 62, 63, 64, 65, 66, 67, 68, 69, 70, 71, 72, 73, 74, 75, 76, 77, 78, 79] (fun m : Nat => [(15, .int .i64 m), (3, .int .i64 (balM w (m - 1)))]) (fun m M' => m ≤ w.length + 1 ∧ Sub M M') (fun m => w.length + 1 - m) 0 (by kernel_rfl) (by simp (disch := omega); rfl) ⟨Nat.zero_le _, Sub.refl _⟩ ?_
  rintro m N g ⟨hm, hs⟩
  have hbal := balM_in h60 (m - 1)
  by_cases hlt : m < w.length + 1
  · have hnext : spr (balM w (m - 1)) (loW w m) (hiW w m) 5 = balM w (m + 1 - 1) := by
      cases m with
      | zero => exact bal_zero w
      | succ m => rfl
    have hsame := fun L => bal_same (w := w) (m := m) (L := L) (by omega)
    have hlo := loW_in h60 m
    have hhi := hiW_in h60 m
    have htl : (w.take m).length ≤ 1099511627776 := by rw [List.length_take]; omega
    have hta : (w.take m).all isL = true := by have := seg_all hall 0 m; rw [seg_zero] at this; exact this
    generalize balM w (m - 1) = best at *
    simp (disch := omega)
    refine draws [0, 1, 2, 4, 5, 6, 3, 7, 8, 9] [0, 0, 0, 0, 0, 0, 1, 1, 0, 0] tab_ok (by kernel_rfl) (by kernel_rfl) (by kernel_rfl) (by rfl) ?_
    simp (disch := omega)
    refine count_does (w.take m) _ _ htl hta ?_
    intro v1 N1 o1
    have q1 := o1.sub
    simp (disch := omega)
    refine ⟨q1, ?_⟩
    refine count_does (w.take m) _ _ htl hta ?_
    intro v2 N2 o2
    have q2 := o2.sub
    simp (disch := omega)
    refine ⟨q2, ?_⟩
    rw [counts_vec] at o1 o2
    obtain ⟨b1, c1, rfl, hb1, hc1, rfl⟩ := o1.block
    obtain ⟨b2, c2, rfl, hb2, hc2, rfl⟩ := o2.block
    have sN := q1.trans q2
    have h12 : b1 ≠ b2 := by rintro rfl; rw [put_same] at hb2; cases hb2
    have hb2' : N b2 = none := by rw [put_ne _ _ (Ne.symm h12)] at hb2; exact hb2
    have k1 : ((N.put b1 (.cells true (ints (vec (cnt (w.take m)))) c1)).put b2 (.cells true (ints (vec (cnt (w.take m)))) c2)) b1 = some (.cells true (ints (vec (cnt (w.take m)))) c1) := by rw [put_ne _ _ h12, put_same]
    have k2 : ((N.put b1 (.cells true (ints (vec (cnt (w.take m)))) c1)).put b2 (.cells true (ints (vec (cnt (w.take m)))) c2)) b2 = some (.cells true (ints (vec (cnt (w.take m)))) c2) := put_same _ _ _
    generalize (N.put b1 (.cells true (ints (vec (cnt (w.take m)))) c1)).put b2 (.cells true (ints (vec (cnt (w.take m)))) c2) = N2 at *
    clear q1 q2 o1 o2 hb2
    have hbase : ∀ k, 0 ≤ cnt (w.take m) k ∧ cnt (w.take m) k ≤ 60 := fun k => cnt_word (by rw [List.length_take]; omega) k
    generalize cnt (w.take m) = base at *
    refine factors_does w m _ _ h60 (by omega) ?_
    intro vf N3 hr sF
    have hmem := fun x => mem_srt (segsA w m (w.length - m + 1)) x
    have hlen := srt_le (segsA w m (w.length - m + 1))
    rw [segsA_length] at hlen
    obtain ⟨elo, ehi⟩ := hsame _ hmem
    have hsl : ∀ u ∈ srt (segsA w m (w.length - m + 1)), u.length ≤ 60 ∧ u.all isL = true := by
      intro u hu
      obtain ⟨t, _, rfl⟩ := List.mem_map.1 ((hmem u).1 hu)
      refine ⟨?_, seg_all hall t m⟩
      unfold seg
      rw [List.length_drop, List.length_take]
      omega
    generalize srt (segsA w m (w.length - m + 1)) = ss at *
    obtain ⟨a, c, rfl, ha⟩ := hr.opened
    rw [strs_length] at ha ⊢
    have k1' := sF _ _ k1
    have k2' := sF _ _ k2
    obtain ⟨D, hD1, hD2, hDN, hD3, hget⟩ : ∃ D : Mem, D b1 = none ∧ D b2 = none ∧ Sub N D ∧ Sub D N3 ∧ ∀ i, (hi : i < ss.length) → ∃ b o, a = some ⟨b, o, none⟩ ∧ D.get? b (o + i) = some (str ss[i]) := by
      refine ⟨(N3.del b1).del b2, by simp [Mem.del], by simp [Mem.del], ((sN.trans sF).del hb1).del hb2', (del_sub _ _).trans (del_sub _ _), ?_⟩
      intro i hi
      rcases ha with hz | ⟨b, o, rfl, ha⟩
      · omega
      have hg := ha i hi
      rw [strs_get, List.getElem?_eq_getElem hi] at hg
      have n1 : b ≠ b1 := by rintro rfl; rw [get_of k1'] at hg; exact ints_not_str hg
      have n2 : b ≠ b2 := by rintro rfl; rw [get_of k2'] at hg; exact ints_not_str hg
      exact ⟨b, o, rfl, by rw [get_del n2, get_del n1]; exact hg⟩
    simp (disch := omega)
    refine loop_to tab_ok [8, 9, 10, 30, 31, 32, 33, 34, 35, 36, 37, 38, 39, 40, 41, 42, 43, 44, 45, 46, 47, 48, 49, 50, 51, 52, 53, 54, 55, 56, 57, 58, 59, 60, 61] (fun i : Nat => [(30, .int .i64 i)]) (fun i M1 => i ≤ ss.length ∧ Sub D M1 ∧ M1 b1 = some (.cells true (ints (vec (foldG mnF base (ss.take i)))) c1) ∧ M1 b2 = some (.cells true (ints (vec (foldG mxF base (ss.take i)))) c2)) (fun i => ss.length - i) 0 (by kernel_rfl) (by simp (disch := omega)) ⟨by omega, hD3, k1', k2'⟩ ?_
    rintro i M1 g1 ⟨hi, s1, l1, l2⟩
    have htk : ∀ u ∈ ss.take i, u.length ≤ 60 := fun u hu => (hsl u (List.mem_of_mem_take hu)).1
    have hlo1 : ∀ k, 0 ≤ foldG mnF base (ss.take i) k ∧ foldG mnF base (ss.take i) k ≤ 60 := foldG_in mnF_in hbase htk
    have hhi1 : ∀ k, 0 ≤ foldG mxF base (ss.take i) k ∧ foldG mxF base (ss.take i) k ≤ 60 := foldG_in mxF_in hbase htk
    by_cases hil : i < ss.length
    · obtain ⟨b, o, rfl, hg⟩ := hget i hil
      have e1 := vec_five mnF base (ss.take i) ss[i]
      have e2 := vec_five mxF base (ss.take i) ss[i]
      rw [← take_snoc ss hil] at e1 e2
      obtain ⟨hu60, hsA⟩ := hsl _ (List.getElem_mem hil)
      have hg1 := get_keep hg s1
      generalize ss[i] = u at *
      have hcu := fun k => cnt_word hu60 k
      generalize foldG mnF base (ss.take i) = lo at *
      generalize foldG mxF base (ss.take i) = hi' at *
      simp (disch := omega) [hg1]
      refine count_does u _ _ (by omega) hsA ?_
      intro v3 M2 o3
      rw [counts_vec] at o3
      obtain ⟨b3, c3, rfl, hb3, hc3, rfl⟩ := o3.block
      have h13 : b1 ≠ b3 := by rintro rfl; rw [l1] at hb3; cases hb3
      have h23 : b2 ≠ b3 := by rintro rfl; rw [l2] at hb3; cases hb3
      have z1 := o3.sub _ _ l1
      have z2 := o3.sub _ _ l2
      have z3 : (M1.put b3 (.cells true (ints (vec (cnt u))) c3)) b3 = some (.cells true (ints (vec (cnt u))) c3) := put_same _ _ _
      have zs := s1.trans o3.sub
      generalize M1.put b3 (.cells true (ints (vec (cnt u))) c3) = M2 at *
      clear o3
      simp (disch := omega)
      refine loop_to tab_ok [9, 10, 37, 38, 39, 40, 41, 42, 43, 44, 45, 46, 47, 48, 49, 50, 51, 52, 53, 54, 55, 56, 57, 58, 59, 60] (fun j : Nat => [(37, .int .i64 j)]) (fun j M3 => j ≤ 5 ∧ Sub D M3 ∧ M3 b1 = some (.cells true (ints (vec (stpB mnF lo u j))) c1) ∧ M3 b2 = some (.cells true (ints (vec (stpB mxF hi' u j))) c2) ∧ M3 b3 = some (.cells true (ints (vec (cnt u))) c3)) (fun j => 5 - j) 0 (by kernel_rfl) (by simp (disch := omega)) ⟨by omega, zs, by rw [stpB_zero]; exact z1, by rw [stpB_zero]; exact z2, z3⟩ ?_
      rintro j M3 g2 ⟨hj, s3, y1, y2, y3⟩
      by_cases hj5 : j < 5
      · obtain ⟨L1, hL1⟩ : ∃ x, x = ints (vec (stpB mnF lo u (j + 1))) := ⟨_, rfl⟩
        obtain ⟨L2, hL2⟩ : ∃ x, x = ints (vec (stpB mxF hi' u (j + 1))) := ⟨_, rfl⟩
        have p1 : (ints (vec (stpB mnF lo u j))).set j (.int .i64 (if cnt u j < lo j then cnt u j else lo j)) = L1 := by rw [hL1]; exact vec_put mnF lo u hj5
        have p2 : (ints (vec (stpB mxF hi' u j))).set j (.int .i64 (if hi' j < cnt u j then cnt u j else hi' j)) = L2 := by rw [hL2]; exact vec_put mxF hi' u hj5
        have t1 := vec_at (stpB mnF lo u j) hj5
        have t2 := vec_at (stpB mxF hi' u j) hj5
        have t3 := vec_at (cnt u) hj5
        rw [stpB_at] at t1 t2
        have r1 := vec_len (stpB mnF lo u j)
        have r2 := vec_len (stpB mxF hi' u j)
        have aL := hlo1 j
        have aH := hhi1 j
        have aC := hcu j
        generalize ints (vec (stpB mnF lo u j)) = V1 at *
        generalize ints (vec (stpB mxF hi' u j)) = V2 at *
        generalize ints (vec (cnt u)) = V3 at *
        generalize cnt u j = x3 at *
        generalize lo j = x1 at *
        generalize hi' j = x2 at *
        simp (disch := omega) [get_of y3, t3]
        refine plays (lights [0, 1, 2, 3, 4, 5, 6, 7, 8, 9, 10, 11, 12, 13, 14, 15, 16] (.one 17 2 (.light 18 (.one 19 2 .fin)))) tab_ok (by kernel_rfl) (by kernel_rfl) (by rfl) ?_
        simp (disch := omega) [get_of y1, get_of y2, get_of y3, t1, t2, t3, at_in t1, at_in t2, y1, y2, p1, p2]
        try simp only [set_is]
        try simp (disch := omega) [y2, p2]
        refine Rnd.mk' (j + 1) (by omega) (by (repeat (first | exact km | refine kp rfl ?_ | refine km' rfl ?_))) (by simp (disch := omega)) ⟨by omega, (s3.ovr hD2 _).ovr hD1 _, ?_, ?_, ?_⟩
        · rw [← hL1]; exact put_same _ _ _
        · rw [put_ne _ _ (Ne.symm h12), ← hL2]; exact put_same _ _ _
        · rw [put_ne _ _ (Ne.symm h13), set_is, put_ne _ _ (Ne.symm h23)]; exact y3
      · have hj' : j = 5 := by omega
        subst hj'
        simp (disch := omega)
        rw [e1] at y1
        rw [e2] at y2
        exact Rnd.mk' (i + 1) (by omega) (by (repeat (first | exact km | refine kp rfl ?_ | refine km' rfl ?_))) (by simp (disch := omega)) ⟨by omega, s3, y1, y2⟩
    · have hi' : i = ss.length := by omega
      subst hi'
      rw [List.take_length] at l1 l2 hlo1 hhi1
      rw [elo] at l1 hlo1
      rw [ehi] at l2 hhi1
      generalize loW w m = lo at *
      generalize hiW w m = hi' at *
      simp (disch := omega)
      refine loop_to tab_ok [3, 11, 64, 65, 66, 67, 68, 69, 70, 71, 72, 73, 74, 75, 76, 77, 78] (fun j : Nat => [(64, .int .i64 j), (3, .int .i64 (spr best lo hi' j))]) (fun j M3 => j ≤ 5 ∧ M3 = M1) (fun j => 5 - j) 0 (by kernel_rfl) (by simp (disch := omega); rfl) ⟨by omega, rfl⟩ ?_
      rintro j M3 g2 ⟨hj, rfl⟩
      have hsp := spr_in hbal hlo1 hhi1 j
      have ess : spr best lo hi' (j + 1) = mxF (spr best lo hi' j) (hi' j - lo j) := rfl
      unfold mxF at ess
      by_cases hj5 : j < 5
      · generalize spr best lo hi' j = bj at *
        have t1 := vec_at lo hj5
        have t2 := vec_at hi' hj5
        have a1 := hlo1 j
        have a2 := hhi1 j
        generalize lo j = x at *
        generalize hi' j = y at *
        simp (disch := omega)
        refine draws [0, 1, 2, 3, 4, 5, 6, 7, 8, 9, 10, 11] [0, 0, 0, 0, 0, 0, 0, 0, 0, 0, 0, 0] tab_ok (by kernel_rfl) (by kernel_rfl) (by kernel_rfl) (by rfl) ?_
        simp (disch := omega) [get_of l1, get_of l2, t1, t2]
        exact Rnd.mk' (j + 1) (by omega) (by (repeat (first | exact km | refine kp rfl ?_ | refine km' rfl ?_))) (by simp (disch := omega) [ess]) ⟨by omega, rfl⟩
      · have hj' : j = 5 := by omega
        subst hj'
        simp (disch := omega)
        exact Rnd.mk' (m + 1) (by omega) (by (repeat (first | exact km | refine kp rfl ?_ | refine km' rfl ?_))) (by simp (disch := omega) [hnext]) ⟨by omega, hDN.trans s1 |> hs.trans⟩
  · have hm' : m = w.length + 1 := by omega
    subst hm'
    simp (disch := omega)
    exact ret_sub (Sub.refl _) (h _ hs)
end Go.Proofs.YticejlplbibegaaGreatDoor

/- Contracts: balances of words, of the reference. -/
import Derived.Test.YtncpooklejiphaaM7
import Derived.Test.YtncpooklejiphaaC21
import Derived.Test.YtncpooklejiphaaE9
namespace Go.Proofs.Ytncpooklejiphaa
open Go
set_option linter.unusedSimpArgs false
set_option linter.unusedVariables false

theorem vec_at (g : Nat → Int) {i : Nat} (h : i < 5) : (ints (vec g))[i]? = some (.int .i64 (g i)) := by rw [ints_get, vec_get g h]; rfl
theorem vec_put (f : Int → Int → Int) (g : Nat → Int) (u : List UInt8) {i : Nat} (h : i < 5) : (ints (vec (stpB f g u i))).set i (.int .i64 (f (g i) (cnt u i))) = ints (vec (stpB f g u (i + 1))) := by rw [ints_set, vec_set f g u h]
theorem vec_len (g : Nat → Int) : (ints (vec g)).length = 5 := rfl
theorem at_in {L : List Value} {j : Nat} {v : Value} (h : L[j]? = some v) (hj : j < L.length) : L[j] = v := by
  rw [List.getElem?_eq_getElem hj] at h
  exact Option.some.inj h
/-- A list of numbers of its own that is not empty lies in a block. -/
theorem Own.block {M M' : Mem} {v : Value} {g : Nat → Int} (o : Own M v (ints (vec g)) M') : ∃ b c, v = .slice (some ⟨b, 0, none⟩) 5 c ∧ M b = none ∧ 5 ≤ c ∧ M' = M.put b (.cells true (ints (vec g)) c) := by
  rcases o with ⟨_, e, _⟩ | ⟨b, c, rfl, hb, hc, rfl⟩
  · cases e
  · exact ⟨b, c, rfl, hb, hc, rfl⟩
theorem l07Balance_does (w : List UInt8) (M : Mem) (R : Value → Mem → Prop) (hw : isWord w = true) (h : ∀ M', Sub M M' → R (.int .i64 (balM w w.length)) M') : Does Try.prog 94 [str w] M R := by
  have h60 := isWord_len hw
  have hall := isWord_all hw
  refine does_fn tab_ok Try.func94 rfl (by kernel_rfl) (by kernel_rfl) Try.ntmps94 Try.results94 rfl ?_
  simp (disch := omega)
  refine loop_to tab_ok [3, 4, 5, 6, 7, 8, 9, 10, 11, 12, 13, 14, 15, 16, 17, 18, 19, 20, 21, 22, 23, 24, 25, 26, 27, 28, 29, 30, 31, 32, 33, 34, 35, 36, 37, 38, 39, 40, 41, 42, 43, 44, 45, 46, 47, 48, 49, 50, 51, 52, 53, 54, 55, 56, 57, 58, 59, 60, 61, 62, 63, 64, 65, 66, 67, 68, 69, 70, 71, 72, 73, 74, 75, 76, 77, 78, 79, 80, 81, 82, 83, 84, 85, 86] (fun m : Nat => [(4, .int .i64 ((m : Int) + 1)), (3, .int .i64 (balM w m))]) (fun m M' => m ≤ w.length ∧ Sub M M') (fun m => w.length - m) 0 (by kernel_rfl) (by simp (disch := omega); rfl) ⟨Nat.zero_le _, Sub.refl _⟩ ?_
  rintro m N g ⟨hm, hs⟩
  have hbal := balM_in h60 m
  by_cases hlt : m < w.length
  · have hbs : balM w (m + 1) = spr (balM w m) (loW w (m + 1)) (hiW w (m + 1)) 5 := rfl
    have elo : loW w (m + 1) = foldG mnF (cnt (w.take (m + 1))) (segsF w (m + 1) (w.length - (m + 1))) := rfl
    have ehi : hiW w (m + 1) = foldG mxF (cnt (w.take (m + 1))) (segsF w (m + 1) (w.length - (m + 1))) := rfl
    have hlo := loW_in h60 (m + 1)
    have hhi := hiW_in h60 (m + 1)
    have hsl := fun i => segsF_len (w := w) (m := m + 1) (i := i) h60
    have et : (((m : Int) + 1)).toNat = m + 1 := by omega
    have htl : (w.take (m + 1)).length ≤ 1099511627776 := by rw [List.length_take]; omega
    have hta : (w.take (m + 1)).all isL = true := by have := seg_all hall 0 (m + 1); rw [seg_zero] at this; exact this
    generalize balM w m = best at *
    simp (disch := omega)
    refine draws [0, 1, 2, 4, 5, 6, 3, 7, 8, 9] [0, 0, 0, 0, 0, 0, 1, 1, 0, 0] tab_ok (by kernel_rfl) (by kernel_rfl) (by kernel_rfl) (by rfl) ?_
    simp (disch := omega) [et]
    refine l01Count_does (w.take (m + 1)) _ _ htl hta ?_
    intro v1 N1 o1
    have q1 := o1.sub
    simp (disch := omega) [et]
    refine ⟨q1, ?_⟩
    refine l01Count_does (w.take (m + 1)) _ _ htl hta ?_
    intro v2 N2 o2
    have q2 := o2.sub
    simp (disch := omega)
    refine ⟨q2, ?_⟩
    rw [counts_vec] at o1 o2
    obtain ⟨b1, c1, rfl, hb1, hc1, rfl⟩ := o1.block
    obtain ⟨b2, c2, rfl, hb2, hc2, rfl⟩ := o2.block
    have sN := q1.trans q2
    have h12 : b1 ≠ b2 := by rintro rfl; rw [put_same] at hb2; cases hb2
    have hb2' : N b2 = none := by rw [put_ne _ _ (Ne.symm h12)] at hb2; exact hb2
    have k1 : ((N.put b1 (.cells true (ints (vec (cnt (w.take (m + 1))))) c1)).put b2 (.cells true (ints (vec (cnt (w.take (m + 1))))) c2)) b1 = some (.cells true (ints (vec (cnt (w.take (m + 1))))) c1) := by rw [put_ne _ _ h12, put_same]
    have k2 : ((N.put b1 (.cells true (ints (vec (cnt (w.take (m + 1))))) c1)).put b2 (.cells true (ints (vec (cnt (w.take (m + 1))))) c2)) b2 = some (.cells true (ints (vec (cnt (w.take (m + 1))))) c2) := put_same _ _ _
    generalize (N.put b1 (.cells true (ints (vec (cnt (w.take (m + 1))))) c1)).put b2 (.cells true (ints (vec (cnt (w.take (m + 1))))) c2) = N2 at *
    clear q1 q2 o1 o2 hb2
    have hbase : ∀ k, 0 ≤ cnt (w.take (m + 1)) k ∧ cnt (w.take (m + 1)) k ≤ 60 := fun k => cnt_word (by rw [List.length_take]; omega) k
    generalize cnt (w.take (m + 1)) = base at *
    refine loop_to tab_ok [7, 8, 9, 25, 26, 27, 28, 29, 30, 31, 32, 33, 34, 35, 36, 37, 38, 39, 40, 41, 42, 43, 44, 45, 46, 47, 48, 49, 50, 51, 52, 53, 54, 55, 56, 57, 58, 59, 60, 61, 62, 63, 64, 65, 66, 67, 68, 69] (fun i : Nat => [(7, .int .i64 ((i : Int) + 1))]) (fun i M1 => i ≤ w.length - (m + 1) ∧ Sub N M1 ∧ M1 b1 = some (.cells true (ints (vec (foldG mnF base (segsF w (m + 1) i)))) c1) ∧ M1 b2 = some (.cells true (ints (vec (foldG mxF base (segsF w (m + 1) i)))) c2)) (fun i => w.length - i) 0 (by kernel_rfl) (by simp (disch := omega)) ⟨by omega, sN, k1, k2⟩ ?_
    rintro i M1 g1 ⟨hi, s1, l1, l2⟩
    have hlo1 : ∀ k, 0 ≤ foldG mnF base (segsF w (m + 1) i) k ∧ foldG mnF base (segsF w (m + 1) i) k ≤ 60 := foldG_in mnF_in hbase (hsl i)
    have hhi1 : ∀ k, 0 ≤ foldG mxF base (segsF w (m + 1) i) k ∧ foldG mxF base (segsF w (m + 1) i) k ≤ 60 := foldG_in mxF_in hbase (hsl i)
    by_cases hil : i < w.length - (m + 1)
    · have e1 := vec_five mnF base (segsF w (m + 1) i) (seg w (i + 1) (m + 1))
      have e2 := vec_five mxF base (segsF w (m + 1) i) (seg w (i + 1) (m + 1))
      rw [← segsF_succ] at e1 e2
      have hsg : (w.take ((i : Int) + 1 + (m + 1)).toNat).drop (i + 1) = seg w (i + 1) (m + 1) := by
        unfold seg
        rw [show ((i : Int) + 1 + (m + 1)).toNat = i + 1 + (m + 1) by omega]
      have hsL := seg_len (w := w) (a := i + 1) (m := m + 1) (by omega)
      have hsA := seg_all hall (i + 1) (m + 1)
      generalize seg w (i + 1) (m + 1) = u at *
      have hu60 : u.length ≤ 60 := by omega
      have hcu := fun k => cnt_word hu60 k
      generalize foldG mnF base (segsF w (m + 1) i) = lo at *
      generalize foldG mxF base (segsF w (m + 1) i) = hi' at *
      simp (disch := omega) [hsg]
      refine l01Count_does u _ _ (by omega) hsA ?_
      intro v3 M2 o3
      rw [counts_vec] at o3
      obtain ⟨b3, c3, rfl, hb3, hc3, rfl⟩ := o3.block
      have h13 : b1 ≠ b3 := by rintro rfl; rw [l1] at hb3; cases hb3
      have h23 : b2 ≠ b3 := by rintro rfl; rw [l2] at hb3; cases hb3
      have z1 := o3.sub _ _ l1
      have z2 := o3.sub _ _ l2
      have z3 : (M1.put b3 (.cells true (ints (vec (cnt u))) c3)) b3 = some (.cells true (ints (vec (cnt u))) c3) := put_same _ _ _
      have zs := s1.trans o3.sub
      generalize M1.put b3 (.cells true (ints (vec (cnt u))) c3) = M2 at *
      clear o3
      simp (disch := omega)
      refine loop_to tab_ok [9, 40, 41, 42, 43, 44, 45, 46, 47, 48, 49, 50, 51, 52, 53, 54, 55, 56, 57, 58, 59, 60, 61, 62, 63, 64, 65, 66, 67, 68, 69] (fun j : Nat => [(9, .int .i64 j)]) (fun j M3 => j ≤ 5 ∧ Sub N M3 ∧ M3 b1 = some (.cells true (ints (vec (stpB mnF lo u j))) c1) ∧ M3 b2 = some (.cells true (ints (vec (stpB mxF hi' u j))) c2) ∧ M3 b3 = some (.cells true (ints (vec (cnt u))) c3)) (fun j => 5 - j) 0 (by kernel_rfl) (by simp (disch := omega)) ⟨by omega, zs, by rw [stpB_zero]; exact z1, by rw [stpB_zero]; exact z2, z3⟩ ?_
      rintro j M3 g2 ⟨hj, s3, y1, y2, y3⟩
      by_cases hj5 : j < 5
      · obtain ⟨L1, hL1⟩ : ∃ x, x = ints (vec (stpB mnF lo u (j + 1))) := ⟨_, rfl⟩
        obtain ⟨L2, hL2⟩ : ∃ x, x = ints (vec (stpB mxF hi' u (j + 1))) := ⟨_, rfl⟩
        have p1 : (ints (vec (stpB mnF lo u j))).set j (.int .i64 (if cnt u j < lo j then cnt u j else lo j)) = L1 := by rw [hL1]; exact vec_put mnF lo u hj5
        have p2 : (ints (vec (stpB mxF hi' u j))).set j (.int .i64 (if hi' j < cnt u j then cnt u j else hi' j)) = L2 := by rw [hL2]; exact vec_put mxF hi' u hj5
        have t1 := vec_at (stpB mnF lo u j) hj5
        have t2 := vec_at (stpB mxF hi' u j) hj5
        have t3 := vec_at (cnt u) hj5
        rw [stpB_at] at t1 t2
        have r1 := vec_len (stpB mnF lo u j)
        have r2 := vec_len (stpB mxF hi' u j)
        have aL := hlo1 j
        have aH := hhi1 j
        have aC := hcu j
        generalize ints (vec (stpB mnF lo u j)) = V1 at *
        generalize ints (vec (stpB mxF hi' u j)) = V2 at *
        generalize ints (vec (cnt u)) = V3 at *
        generalize cnt u j = x3 at *
        generalize lo j = x1 at *
        generalize hi' j = x2 at *
        simp (disch := omega)
        refine draws [0, 1, 2, 3, 4, 5, 6, 7, 8, 9, 10, 11, 12] [0, 0, 0, 0, 0, 0, 0, 0, 0, 0, 0, 0, 2] tab_ok (by kernel_rfl) (by kernel_rfl) (by kernel_rfl) (by rfl) ?_
        simp (disch := omega) [get_of y1, get_of y3, t1, t3, at_in t1, y1, p1]
        try simp only [set_is]
        have s4 := s3.ovr hb1 (.cells true L1 c1)
        have z1 : (M3.put b1 (.cells true L1 c1)) b1 = some (.cells true L1 c1) := put_same _ _ _
        have z2 : (M3.put b1 (.cells true L1 c1)) b2 = some (.cells true V2 c2) := by rw [put_ne _ _ (Ne.symm h12)]; exact y2
        have z3 : (M3.put b1 (.cells true L1 c1)) b3 = some (.cells true V3 c3) := by rw [put_ne _ _ (Ne.symm h13)]; exact y3
        generalize M3.put b1 (.cells true L1 c1) = M4 at *
        try simp (disch := omega)
        refine draws [0, 1, 2, 3, 4, 5, 6, 7, 8, 9, 10, 11, 12] [0, 0, 0, 0, 0, 0, 0, 0, 0, 0, 0, 0, 2] tab_ok (by kernel_rfl) (by kernel_rfl) (by kernel_rfl) (by rfl) ?_
        simp (disch := omega) [get_of z2, get_of z3, t2, t3, at_in t2, z2, p2]
        try simp only [set_is]
        try simp (disch := omega)
        refine Rnd.mk' (j + 1) (by omega) (by (repeat (first | exact km | refine kp rfl ?_ | refine km' rfl ?_))) (by simp (disch := omega)) ⟨by omega, s4.ovr hb2' _, ?_, ?_, ?_⟩
        · rw [put_ne _ _ h12, ← hL1]; exact z1
        · rw [← hL2]; exact put_same _ _ _
        · rw [put_ne _ _ (Ne.symm h23)]; exact z3
      · have hj' : j = 5 := by omega
        subst hj'
        simp (disch := omega)
        rw [e1] at y1
        rw [e2] at y2
        exact Rnd.mk' (i + 1) (by omega) (by (repeat (first | exact km | refine kp rfl ?_ | refine km' rfl ?_))) (by simp (disch := omega)) ⟨by omega, s3, y1, y2⟩
    · have hi' : i = w.length - (m + 1) := by omega
      subst hi'
      rw [← elo] at l1 hlo1
      rw [← ehi] at l2 hhi1
      generalize loW w (m + 1) = lo at *
      generalize hiW w (m + 1) = hi' at *
      simp (disch := omega)
      refine loop_to tab_ok [3, 10, 70, 71, 72, 73, 74, 75, 76, 77, 78, 79, 80, 81, 82, 83, 84, 85, 86] (fun j : Nat => [(10, .int .i64 j), (3, .int .i64 (spr best lo hi' j))]) (fun j M3 => j ≤ 5 ∧ M3 = M1) (fun j => 5 - j) 0 (by kernel_rfl) (by simp (disch := omega); rfl) ⟨by omega, rfl⟩ ?_
      rintro j M3 g2 ⟨hj, rfl⟩
      have hsp := spr_in hbal hlo1 hhi1 j
      have ess : spr best lo hi' (j + 1) = mxF (spr best lo hi' j) (hi' j - lo j) := rfl
      unfold mxF at ess
      by_cases hj5 : j < 5
      · generalize spr best lo hi' j = bj at *
        have t1 := vec_at lo hj5
        have t2 := vec_at hi' hj5
        have a1 := hlo1 j
        have a2 := hhi1 j
        generalize lo j = x at *
        generalize hi' j = y at *
        simp (disch := omega)
        refine draws [0, 1, 2, 3, 4, 5, 6, 7, 8, 9, 10, 11] [0, 0, 0, 0, 0, 0, 0, 0, 0, 0, 0, 0] tab_ok (by kernel_rfl) (by kernel_rfl) (by kernel_rfl) (by rfl) ?_
        simp (disch := omega) [get_of l1, get_of l2, t1, t2]
        exact Rnd.mk' (j + 1) (by omega) (by (repeat (first | exact km | refine kp rfl ?_ | refine km' rfl ?_))) (by simp (disch := omega) [ess]) ⟨by omega, rfl⟩
      · have hj' : j = 5 := by omega
        subst hj'
        simp (disch := omega)
        exact Rnd.mk' (m + 1) (by omega) (by (repeat (first | exact km | refine kp rfl ?_ | refine km' rfl ?_))) (by simp (disch := omega) [hbs]) ⟨by omega, hs.trans s1⟩
  · have hm' : m = w.length := by omega
    subst hm'
    simp (disch := omega)
    exact ret_sub (Sub.refl _) (h _ hs)
end Go.Proofs.Ytncpooklejiphaa

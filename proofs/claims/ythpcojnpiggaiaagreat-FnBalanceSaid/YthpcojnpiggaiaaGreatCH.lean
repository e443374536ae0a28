/- Merged: C31 C32 C33 C101. -/
import Derived.Test.YthpcojnpiggaiaaGreatM7
import Derived.Test.YthpcojnpiggaiaaGreatC21
import Derived.Test.YthpcojnpiggaiaaGreatEB
import Derived.Test.YthpcojnpiggaiaaGreatE11
import Derived.Test.YthpcojnpiggaiaaGreatC20
/-! Contracts: balances of words, of the reference. -/
namespace Go.Proofs.YthpcojnpiggaiaaGreat
open Go
set_option linter.unusedSimpArgs false
set_option linter.unusedVariables false

theorem vec_at (g : Nat → Int) {i : Nat} (h : i < 5) : (ints (vec g))[i]? = some (.int .i64 (g i)) := by rw [ints_get, vec_get g h]; rfl
theorem vec_put (f : Int → Int → Int) (g : Nat → Int) (u : List UInt8) {i : Nat} (h : i < 5) : (ints (vec (stpB f g u i))).set i (.int .i64 (f (g i) (cnt u i))) = ints (vec (stpB f g u (i + 1))) := by rw [ints_set, vec_set f g u h]
theorem vec_len (g : Nat → Int) : (ints (vec g)).length = 5 := rfl
theorem at_u8 {L : List UInt8} {j : Nat} {v : UInt8} (h : L[j]? = some v) (hj : j < L.length) : L[j] = v := by
  rw [List.getElem?_eq_getElem hj] at h
  injection h
theorem at_in {L : List Value} {j : Nat} {v : Value} (h : L[j]? = some v) (hj : j < L.length) : L[j] = v := by
  rw [List.getElem?_eq_getElem hj] at h
  exact Option.some.inj h
/-- A list of numbers of its own that is not empty lies in a block. -/
theorem Own.block {M M' : Mem} {v : Value} {g : Nat → Int} (o : Own M v (ints (vec g)) M') : ∃ b c, v = .slice (some ⟨b, 0, none⟩) 5 c ∧ M b = none ∧ 5 ≤ c ∧ M' = M.put b (.cells true (ints (vec g)) c) := by
  rcases o with ⟨_, e, _⟩ | ⟨b, c, rfl, hb, hc, rfl⟩
  · cases e
  · exact ⟨b, c, rfl, hb, hc, rfl⟩
theorem l07Balance_does (w : List UInt8) (M : Mem) (R : Value → Mem → Prop) (hw : isWord w = true) (h : ∀ M', Sub M M' → R (.int .i64 (balM w w.length)) M') : Does Tryz.prog 85 [str w] M R := by
  have h60 := isWord_len hw
  have hall := isWord_all hw
  refine does_fn tab_ok Tryz.func85 rfl (by kernel_rfl) (by kernel_rfl) Tryz.ntmps85 Tryz.results85 rfl ?_
  simp (disch := omega)
  refine loop_to tab_ok [3, 4, 5, 6, 7, 8, 9, 10, 11, 12, 13, 14, 15, 16, 17, 18, 19, 20, 21, 22, 23, 24, 25, 26, 27, 28, 29, 30, 31, 32, 33, 34, 35, 36, 37, 38, 39, 40, 41, 42, 43, 44, 45, 46, 47, 48, 49, 50, 51, 52, 53, 54, 55, 56, 57, 58, 59, 60, 61, 62, 63, 64, 65, 66, 67, 68, 69, 70, 71, 72, 73, 74, 75, 76, 77, 78, 79, 80, 81, 82, 83, 84, 85, 86] (fun m : Nat => [(4, .int .i64 ((m : Int) + 1)), (3, .int .i64 (balM w m))]) (fun m M' => m ≤ w.length ∧ Sub M M') (fun m => w.length - m) 0 (by kernel_rfl) (by simp (disch := omega); rfl) ⟨Nat.zero_le _, Sub.refl _⟩ ?_
  rintro m N g ⟨hm, hs⟩
  have hbal := balM_in h60 m
  by_cases hlt : m < w.length
  · have hbs : balM w (m + 1) = spr (balM w m) (loW w (m + 1)) (hiW w (m + 1)) 5 := rfl
    have elo : loW w (m + 1) = foldG mnF (cnt (w.take (m + 1))) (segsF w (m + 1) (w.length - (m + 1))) := rfl
    have ehi : hiW w (m + 1) = foldG mxF (cnt (w.take (m + 1))) (segsF w (m + 1) (w.length - (m + 1))) := rfl
    have hlo := loW_in h60 (m + 1)
    have hhi := hiW_in h60 (m + 1)
    have hsl := fun i => segsF_len (w := w) (m := m + 1) (i := i) h60
    have et : (((m : Int) + 1)).toNat = m + 1 := by omega
    have htl : (w.take (m + 1)).length ≤ 1099511627776 := by rw [List.length_take]; omega
    have hta : (w.take (m + 1)).all isL = true := by have := seg_all hall 0 (m + 1); rw [seg_zero] at this; exact this
    generalize balM w m = best at *
    simp (disch := omega)
    refine draws [0, 1, 2, 4, 5, 6, 3, 7, 8, 9] [0, 0, 0, 0, 0, 0, 1, 1, 0, 0] tab_ok (by kernel_rfl) (by kernel_rfl) (by kernel_rfl) (by rfl) ?_
    simp (disch := omega) [et]
    refine l01Count_does (w.take (m + 1)) _ _ htl hta ?_
    intro v1 N1 o1
    have q1 := o1.sub
    simp (disch := omega) [et]
    refine ⟨q1, ?_⟩
    refine l01Count_does (w.take (m + 1)) _ _ htl hta ?_
    intro v2 N2 o2
    have q2 := o2.sub
    simp (disch := omega)
    refine ⟨q2, ?_⟩
    rw [counts_vec] at o1 o2
    obtain ⟨b1, c1, rfl, hb1, hc1, rfl⟩ := o1.block
    obtain ⟨b2, c2, rfl, hb2, hc2, rfl⟩ := o2.block
    have sN := q1.trans q2
    have h12 : b1 ≠ b2 := by rintro rfl; rw [put_same] at hb2; cases hb2
    have hb2' : N b2 = none := by rw [put_ne _ _ (Ne.symm h12)] at hb2; exact hb2
    have k1 : ((N.put b1 (.cells true (ints (vec (cnt (w.take (m + 1))))) c1)).put b2 (.cells true (ints (vec (cnt (w.take (m + 1))))) c2)) b1 = some (.cells true (ints (vec (cnt (w.take (m + 1))))) c1) := by rw [put_ne _ _ h12, put_same]
    have k2 : ((N.put b1 (.cells true (ints (vec (cnt (w.take (m + 1))))) c1)).put b2 (.cells true (ints (vec (cnt (w.take (m + 1))))) c2)) b2 = some (.cells true (ints (vec (cnt (w.take (m + 1))))) c2) := put_same _ _ _
    generalize (N.put b1 (.cells true (ints (vec (cnt (w.take (m + 1))))) c1)).put b2 (.cells true (ints (vec (cnt (w.take (m + 1))))) c2) = N2 at *
    clear q1 q2 o1 o2 hb2
    have hbase : ∀ k, 0 ≤ cnt (w.take (m + 1)) k ∧ cnt (w.take (m + 1)) k ≤ 60 := fun k => cnt_word (by rw [List.length_take]; omega) k
    generalize cnt (w.take (m + 1)) = base at *
    refine loop_to tab_ok [7, 8, 9, 25, 26, 27, 28, 29, 30, 31, 32, 33, 34, 35, 36, 37, 38, 39, 40, 41, 42, 43, 44, 45, 46, 47, 48, 49, 50, 51, 52, 53, 54, 55, 56, 57, 58, 59, 60, 61, 62, 63, 64, 65, 66, 67, 68, 69] (fun i : Nat => [(7, .int .i64 ((i : Int) + 1))]) (fun i M1 => i ≤ w.length - (m + 1) ∧ Sub N M1 ∧ M1 b1 = some (.cells true (ints (vec (foldG mnF base (segsF w (m + 1) i)))) c1) ∧ M1 b2 = some (.cells true (ints (vec (foldG mxF base (segsF w (m + 1) i)))) c2)) (fun i => w.length - i) 0 (by kernel_rfl) (by simp (disch := omega)) ⟨by omega, sN, k1, k2⟩ ?_
    rintro i M1 g1 ⟨hi, s1, l1, l2⟩
    have hlo1 : ∀ k, 0 ≤ foldG mnF base (segsF w (m + 1) i) k ∧ foldG mnF base (segsF w (m + 1) i) k ≤ 60 := foldG_in mnF_in hbase (hsl i)
    have hhi1 : ∀ k, 0 ≤ foldG mxF base (segsF w (m + 1) i) k ∧ foldG mxF base (segsF w (m + 1) i) k ≤ 60 := foldG_in mxF_in hbase (hsl i)
    by_cases hil : i < w.length - (m + 1)
    · have e1 := vec_five mnF base (segsF w (m + 1) i) (seg w (i + 1) (m + 1))
      have e2 := vec_five mxF base (segsF w (m + 1) i) (seg w (i + 1) (m + 1))
      rw [← segsF_succ] at e1 e2
      have hsg : (w.take ((i : Int) + 1 + (m + 1)).toNat).drop (i + 1) = seg w (i + 1) (m + 1) := by
        unfold seg
        rw [show ((i : Int) + 1 + (m + 1)).toNat = i + 1 + (m + 1) by omega]
      have hsL := seg_len (w := w) (a := i + 1) (m := m + 1) (by omega)
      have hsA := seg_all hall (i + 1) (m + 1)
      generalize seg w (i + 1) (m + 1) = u at *
      have hu60 : u.length ≤ 60 := by omega
      have hcu := fun k => cnt_word hu60 k
      generalize foldG mnF base (segsF w (m + 1) i) = lo at *
      generalize foldG mxF base (segsF w (m + 1) i) = hi' at *
      simp (disch := omega) [hsg]
      refine l01Count_does u _ _ (by omega) hsA ?_
      intro v3 M2 o3
      rw [counts_vec] at o3
      obtain ⟨b3, c3, rfl, hb3, hc3, rfl⟩ := o3.block
      have h13 : b1 ≠ b3 := by rintro rfl; rw [l1] at hb3; cases hb3
      have h23 : b2 ≠ b3 := by rintro rfl; rw [l2] at hb3; cases hb3
      have z1 := o3.sub _ _ l1
      have z2 := o3.sub _ _ l2
      have z3 : (M1.put b3 (.cells true (ints (vec (cnt u))) c3)) b3 = some (.cells true (ints (vec (cnt u))) c3) := put_same _ _ _
      have zs := s1.trans o3.sub
      generalize M1.put b3 (.cells true (ints (vec (cnt u))) c3) = M2 at *
      clear o3
      simp (disch := omega)
      refine loop_to tab_ok [9, 40, 41, 42, 43, 44, 45, 46, 47, 48, 49, 50, 51, 52, 53, 54, 55, 56, 57, 58, 59, 60, 61, 62, 63, 64, 65, 66, 67, 68, 69] (fun j : Nat => [(9, .int .i64 j)]) (fun j M3 => j ≤ 5 ∧ Sub N M3 ∧ M3 b1 = some (.cells true (ints (vec (stpB mnF lo u j))) c1) ∧ M3 b2 = some (.cells true (ints (vec (stpB mxF hi' u j))) c2) ∧ M3 b3 = some (.cells true (ints (vec (cnt u))) c3)) (fun j => 5 - j) 0 (by kernel_rfl) (by simp (disch := omega)) ⟨by omega, zs, by rw [stpB_zero]; exact z1, by rw [stpB_zero]; exact z2, z3⟩ ?_
      rintro j M3 g2 ⟨hj, s3, y1, y2, y3⟩
      by_cases hj5 : j < 5
      · obtain ⟨L1, hL1⟩ : ∃ x, x = ints (vec (stpB mnF lo u (j + 1))) := ⟨_, rfl⟩
        obtain ⟨L2, hL2⟩ : ∃ x, x = ints (vec (stpB mxF hi' u (j + 1))) := ⟨_, rfl⟩
        have p1 : (ints (vec (stpB mnF lo u j))).set j (.int .i64 (if cnt u j < lo j then cnt u j else lo j)) = L1 := by rw [hL1]; exact vec_put mnF lo u hj5
        have p2 : (ints (vec (stpB mxF hi' u j))).set j (.int .i64 (if hi' j < cnt u j then cnt u j else hi' j)) = L2 := by rw [hL2]; exact vec_put mxF hi' u hj5
        have t1 := vec_at (stpB mnF lo u j) hj5
        have t2 := vec_at (stpB mxF hi' u j) hj5
        have t3 := vec_at (cnt u) hj5
        rw [stpB_at] at t1 t2
        have r1 := vec_len (stpB mnF lo u j)
        have r2 := vec_len (stpB mxF hi' u j)
        have aL := hlo1 j
        have aH := hhi1 j
        have aC := hcu j
        generalize ints (vec (stpB mnF lo u j)) = V1 at *
        generalize ints (vec (stpB mxF hi' u j)) = V2 at *
        generalize ints (vec (cnt u)) = V3 at *
        generalize cnt u j = x3 at *
        generalize lo j = x1 at *
        generalize hi' j = x2 at *
        simp (disch := omega)
        refine draws [0, 1, 2, 3, 4, 5, 6, 7, 8, 9, 10, 11, 12] [0, 0, 0, 0, 0, 0, 0, 0, 0, 0, 0, 0, 2] tab_ok (by kernel_rfl) (by kernel_rfl) (by kernel_rfl) (by rfl) ?_
        simp (disch := omega) [get_of y1, get_of y3, t1, t3, at_in t1, y1, p1]
        try simp only [set_is]
        have s4 := s3.ovr hb1 (.cells true L1 c1)
        have z1 : (M3.put b1 (.cells true L1 c1)) b1 = some (.cells true L1 c1) := put_same _ _ _
        have z2 : (M3.put b1 (.cells true L1 c1)) b2 = some (.cells true V2 c2) := by rw [put_ne _ _ (Ne.symm h12)]; exact y2
        have z3 : (M3.put b1 (.cells true L1 c1)) b3 = some (.cells true V3 c3) := by rw [put_ne _ _ (Ne.symm h13)]; exact y3
        generalize M3.put b1 (.cells true L1 c1) = M4 at *
        try simp (disch := omega)
        refine draws [0, 1, 2, 3, 4, 5, 6, 7, 8, 9, 10, 11, 12] [0, 0, 0, 0, 0, 0, 0, 0, 0, 0, 0, 0, 2] tab_ok (by kernel_rfl) (by kernel_rfl) (by kernel_rfl) (by rfl) ?_
        simp (disch := omega) [get_of z2, get_of z3, t2, t3, at_in t2, z2, p2]
        try simp only [set_is]
        try simp (disch := omega)
        refine Rnd.mk' (j + 1) (by omega) (by (repeat (first | exact km | refine kp rfl ?_ | refine km' rfl ?_))) (by simp (disch := omega)) ⟨by omega, s4.ovr hb2' _, ?_, ?_, ?_⟩
        · rw [put_ne _ _ h12, ← hL1]; exact z1
        · rw [← hL2]; exact put_same _ _ _
        · rw [put_ne _ _ (Ne.symm h23)]; exact z3
      · have hj' : j = 5 := by omega
        subst hj'
        simp (disch := omega)
        rw [e1] at y1
        rw [e2] at y2
        exact Rnd.mk' (i + 1) (by omega) (by (repeat (first | exact km | refine kp rfl ?_ | refine km' rfl ?_))) (by simp (disch := omega)) ⟨by omega, s3, y1, y2⟩
    · have hi' : i = w.length - (m + 1) := by omega
      subst hi'
      rw [← elo] at l1 hlo1
      rw [← ehi] at l2 hhi1
      generalize loW w (m + 1) = lo at *
      generalize hiW w (m + 1) = hi' at *
      simp (disch := omega)
      refine loop_to tab_ok [3, 10, 70, 71, 72, 73, 74, 75, 76, 77, 78, 79, 80, 81, 82, 83, 84, 85, 86] (fun j : Nat => [(10, .int .i64 j), (3, .int .i64 (spr best lo hi' j))]) (fun j M3 => j ≤ 5 ∧ M3 = M1) (fun j => 5 - j) 0 (by kernel_rfl) (by simp (disch := omega); rfl) ⟨by omega, rfl⟩ ?_
      rintro j M3 g2 ⟨hj, rfl⟩
      have hsp := spr_in hbal hlo1 hhi1 j
      have ess : spr best lo hi' (j + 1) = mxF (spr best lo hi' j) (hi' j - lo j) := rfl
      unfold mxF at ess
      by_cases hj5 : j < 5
      · generalize spr best lo hi' j = bj at *
        have t1 := vec_at lo hj5
        have t2 := vec_at hi' hj5
        have a1 := hlo1 j
        have a2 := hhi1 j
        generalize lo j = x at *
        generalize hi' j = y at *
        simp (disch := omega)
        refine draws [0, 1, 2, 3, 4, 5, 6, 7, 8, 9, 10, 11] [0, 0, 0, 0, 0, 0, 0, 0, 0, 0, 0, 0] tab_ok (by kernel_rfl) (by kernel_rfl) (by kernel_rfl) (by rfl) ?_
        simp (disch := omega) [get_of l1, get_of l2, t1, t2]
        exact Rnd.mk' (j + 1) (by omega) (by (repeat (first | exact km | refine kp rfl ?_ | refine km' rfl ?_))) (by simp (disch := omega) [ess]) ⟨by omega, rfl⟩
      · have hj' : j = 5 := by omega
        subst hj'
        simp (disch := omega)
        exact Rnd.mk' (m + 1) (by omega) (by (repeat (first | exact km | refine kp rfl ?_ | refine km' rfl ?_))) (by simp (disch := omega) [hbs]) ⟨by omega, hs.trans s1⟩
  · have hm' : m = w.length := by omega
    subst hm'
    simp (disch := omega)
    exact ret_sub (Sub.refl _) (h _ hs)
end Go.Proofs.YthpcojnpiggaiaaGreat
/-! Contracts: lists of words sorted and compacted, by the kit's contracts of slices.Sort and slices.Compact; factors. -/
namespace Go.Proofs.YthpcojnpiggaiaaGreat
open Go Go.RowKit
set_option linter.unusedSimpArgs false
set_option linter.unusedVariables false

theorem row_heap {α : Type} [Inhabited α] (enc : α → Value) (w : World) (b n : Nat) (d : Array α) (os : Array Obj) {k : Nat} (hk : k < w.heap.size) :
    (Sort.grow (Sort.putRow enc (Sort.ahead w n) b 0 d) os).heap[k]? = if b = k then (w.heap[k]?).map (Sort.onCells (Sort.putCells enc 0 d)) else w.heap[k]? := by
  rw [Sort.heap_grow_old _ _ (by simpa [Sort.ahead] using hk)]
  simp only [Sort.putRow, Sort.mapBlock, Array.getElem?_modify, Sort.ahead]
/-- A row of a block of its own is put anew. -/
theorem rep_row {α : Type} [Inhabited α] {M : Mem} {w : World} (enc : α → Value) (hw : Rep M w) {b c : Nat} {xs : List Value} (hM : M b = some (.cells true xs c)) (d : Array α) (hd : d.size = xs.length) (n : Nat) (os : Array Obj) :
    Rep (M.put b (.cells true (d.toList.map enc) c)) (Sort.grow (Sort.putRow enc (Sort.ahead w n) b 0 d) os) ∧ Ext M w (M.put b (.cells true (d.toList.map enc) c)) (Sort.grow (Sort.putRow enc (Sort.ahead w n) b 0 d) os) := by
  have hb := told_lt hw hM
  refine ⟨?_, rfl, rfl, rfl, ?_, ?_, ?_⟩
  · intro i B hB
    by_cases hi : i = b
    · subst hi
      rw [put_same] at hB
      injection hB with hB
      subst hB
      obtain ⟨cc, e, fr, h1, h2, ⟨ys, h3⟩, h4⟩ := hw i _ hM
      refine ⟨Sort.putCells enc 0 d cc, e, fr, ?_, by simpa [Sort.putCells] using h2, ⟨ys, ?_⟩, h4⟩
      · rw [row_heap enc w i n d os hb, if_pos rfl, h1]; rfl
      · apply List.ext_getElem?
        intro k
        have h3' : cc[k]? = (xs ++ ys)[k]? := by rw [← h3]; simp
        rw [Array.getElem?_toList]
        simp only [Sort.putCells, Array.getElem?_mapIdx, h3']
        by_cases hk : k < d.size
        · rw [List.getElem?_append_left (by omega), List.getElem?_append_left (by simpa using hk), List.getElem?_eq_getElem (by omega), Option.map_some, if_pos ⟨Nat.zero_le _, by omega⟩, List.getElem?_map]
          simp [hk]
        · rw [List.getElem?_append_right (by omega), List.getElem?_append_right (by simp; omega)]
          simp only [List.length_map, Array.length_toList, hd]
          cases ys[k - xs.length]? with
          | none => rfl
          | some y => rw [Option.map_some, if_neg (by omega)]
    · rw [put_ne _ _ hi] at hB
      exact Blk.holds_of (by rw [row_heap enc w b n d os (told_lt hw hB), if_neg (Ne.symm hi)]) (hw i B hB)
  · simp [Sort.ahead]
  · intro k hk ho
    have hne : b ≠ k := by rintro rfl; exact ho ⟨_, hM, rfl⟩
    rw [row_heap enc w b n d os hk, if_neg hne]
  · rintro k ⟨B, h1, h2⟩
    by_cases hi : k = b
    · subst hi; exact .inl ⟨_, hM, rfl⟩
    · rw [put_ne _ _ hi] at h1
      exact .inl ⟨B, h1, h2⟩
/-- A call by a contract of the kit that puts a row anew. -/
theorem does_row {α : Type} [Inhabited α] {P : Program} {f : FuncId} {args : List Value} {M : Mem} {R : Value → Mem → Prop} (v : Value) (hb : HasBody P f) (enc : α → Value) {b c : Nat} {xs : List Value} (hM : M b = some (.cells true xs c)) (d : Array α) (hd : d.size = xs.length)
    (h : ∀ w, Rep M w → Calls P f args.toArray w fun e w' => e = .returned v ∧ ∃ n os, w' = Sort.grow (Sort.putRow enc (Sort.ahead w n) b 0 d) os) (hR : R v (M.put b (.cells true (d.toList.map enc) c))) : Does P f args M R :=
  ⟨hb, fun w hw => (h w hw).mono fun e w' ⟨he, n, os, hw'⟩ => by
    subst hw'
    obtain ⟨h1, h2⟩ := rep_row enc hw hM d hd n os
    exact ⟨v, _, he, h1, h2, hR⟩⟩
/-- The same, of whose cells only the first ones are told on. -/
theorem does_rowP {α : Type} [Inhabited α] {P : Program} {f : FuncId} {args : List Value} {M : Mem} {R : Value → Mem → Prop} (v : Value) (hb : HasBody P f) (enc : α → Value) {b c : Nat} {xs : List Value} (hM : M b = some (.cells true xs c)) (d : Array α) (hd : d.size = xs.length) (pre rest : List Value) (hpre : d.toList.map enc = pre ++ rest)
    (h : ∀ w, Rep M w → Calls P f args.toArray w fun e w' => e = .returned v ∧ ∃ n os, w' = Sort.grow (Sort.putRow enc (Sort.ahead w n) b 0 d) os) (hR : R v (M.put b (.cells true pre c))) : Does P f args M R :=
  ⟨hb, fun w hw => (h w hw).mono fun e w' ⟨he, n, os, hw'⟩ => by
    subst hw'
    obtain ⟨h1, h2⟩ := rep_row enc hw hM d hd n os
    refine ⟨v, _, he, ?_, ?_, hR⟩
    · intro i B hB
      by_cases hi : i = b
      · subst hi
        rw [put_same] at hB
        injection hB with hB
        subst hB
        obtain ⟨cc, e, fr, q1, q2, ⟨ys, q3⟩, q4⟩ := h1 i _ (put_same _ _ _)
        exact ⟨cc, e, fr, q1, q2, ⟨rest ++ ys, by rw [q3, hpre, List.append_assoc]⟩, q4⟩
      · rw [put_ne _ _ hi] at hB
        exact h1 i B (by rw [put_ne _ _ hi]; exact hB)
    · refine ⟨h2.os, h2.tape, h2.output, h2.size, h2.block, ?_⟩
      rintro i ⟨B, k1, k2⟩
      refine h2.own i ?_
      by_cases hi : i = b
      · subst hi; exact ⟨_, put_same _ _ _, rfl⟩
      · rw [put_ne _ _ hi] at k1
        exact ⟨B, by rw [put_ne _ _ hi]; exact k1, k2⟩⟩
theorem holds_row {M : Mem} {w : World} (hw : Rep M w) {b c : Nat} {ss : List (List UInt8)} (hM : M b = some (.cells true (strs ss) c)) : Sort.Holds encStr w b 0 ss.toArray := by
  intro j hj
  have hj' : j < ss.length := by simpa using hj
  have hg : M.get? b (0 + j) = some (str ss[j]) := by rw [get_of hM, Nat.zero_add, strs_get, List.getElem?_eq_getElem hj']; rfl
  refine ⟨?_, ?_⟩
  · rw [hw.cell hg, getElem!_pos _ j hj]
    rfl
  · obtain ⟨cc, e, fr, h1, h2, ⟨ys, h3⟩, h4⟩ := hw b _ hM
    have hle := hw.le hM
    rw [strs_length] at hle
    have := h4 rfl
    obtain ⟨lo, hi⟩ := fr
    simp only [World.frozen?, h1, Nat.zero_add, Bool.and_eq_false_iff, decide_eq_false_iff_not]
    simp only at this
    omega
theorem enc_strs (ss : List (List UInt8)) : ss.map encStr = strs ss := by
  unfold strs
  apply List.map_congr_left
  intro l _
  rfl
def srt (ss : List (List UInt8)) : List (List UInt8) := Lib.compact (ss.mergeSort fun x y => decide (x ≤ y))
theorem mem_upTo {α : Type} [Inhabited α] [DecidableEq α] (d : Array α) : ∀ m, ∀ x, x ∈ Lib.compactUpTo d m ↔ ∃ j, j < m ∧ d[j]! = x
  | 0, x => by simp [Lib.compactUpTo]
  | m + 1, x => by
    rw [Lib.compactUpTo_succ, List.mem_append, mem_upTo d m x]
    constructor
    · rintro (⟨j, h1, h2⟩ | h)
      · exact ⟨j, by omega, h2⟩
      · split at h
        · exact ⟨m, by omega, (List.mem_singleton.1 h).symm⟩
        · simp at h
    · rintro ⟨j, h1, h2⟩
      by_cases hj : j < m
      · exact .inl ⟨j, hj, h2⟩
      · have hj' : j = m := by omega
        subst hj'
        cases hk : Lib.keeps d j with
        | true => exact .inr (by rw [if_pos rfl]; simp [h2])
        | false =>
          simp only [Lib.keeps, decide_eq_false_iff_not, not_or, ne_eq, Decidable.not_not] at hk
          exact .inl ⟨j - 1, by omega, by rw [← hk.2]; exact h2⟩
theorem mem_compact {α : Type} [Inhabited α] [DecidableEq α] (zs : List α) (x : α) : x ∈ Lib.compact zs ↔ x ∈ zs := by
  unfold Lib.compact
  rw [mem_upTo]
  constructor
  · rintro ⟨j, h1, h2⟩
    rw [getElem!_pos _ j (by simpa using h1)] at h2
    rw [← h2]
    simp
  · intro h
    obtain ⟨j, h1, h2⟩ := List.mem_iff_getElem.1 h
    exact ⟨j, h1, by rw [getElem!_pos _ j (by simpa using h1)]; simpa using h2⟩
theorem compact_le {α : Type} [Inhabited α] [DecidableEq α] (zs : List α) : (Lib.compact zs).length ≤ zs.length := by
  unfold Lib.compact Lib.compactUpTo
  rw [List.length_map]
  have := List.length_filter_le (Lib.keeps zs.toArray) (List.range zs.length)
  rw [List.length_range] at this
  exact this
theorem mem_srt (ss : List (List UInt8)) (x : List UInt8) : x ∈ srt ss ↔ x ∈ ss := by
  unfold srt
  rw [mem_compact]
  exact List.mem_mergeSort
theorem srt_le (ss : List (List UInt8)) : (srt ss).length ≤ ss.length := by
  unfold srt
  have := compact_le (ss.mergeSort fun x y => decide (x ≤ y))
  rw [List.length_mergeSort] at this
  exact this
theorem slicesSort_does (b c : Nat) (ss : List (List UInt8)) (M : Mem) (R : Value → Mem → Prop) (hM : M b = some (.cells true (strs ss) c)) (hn : ss.length ≤ 1000000)
    (h : R (.tuple #[]) (M.put b (.cells true (strs (ss.mergeSort fun x y => decide (x ≤ y))) c))) : Does Tryz.prog 120 [.slice (some ⟨b, 0, none⟩) ss.length c] M R := by
  refine does_row (.tuple #[]) ⟨_, Tryz.func120, by kernel_rfl, by kernel_rfl⟩ encStr hM (ss.mergeSort fun x y => decide (x ≤ y)).toArray (by simp [strs_length]) (fun w hw => ?_) ?_
  · exact Tryz.slices_Sort_string b 0 c ss w (holds_row hw hM) (told_lt hw hM) (by omega)
  · simp only [enc_strs]; exact h
theorem slicesCompact_does (b c : Nat) (ss : List (List UInt8)) (M : Mem) (R : Value → Mem → Prop) (hM : M b = some (.cells true (strs ss) c)) (hc : ss.length ≤ c) (hn : ss.length ≤ 1000000)
    (h : R (.slice (some ⟨b, 0, none⟩) (Lib.compact ss).length c) (M.put b (.cells true (strs (Lib.compact ss ++ List.replicate (ss.length - (Lib.compact ss).length) [])) c))) : Does Tryz.prog 121 [.slice (some ⟨b, 0, none⟩) ss.length c] M R := by
  have hle := compact_le ss
  refine does_row (.slice (some ⟨b, 0, none⟩) (Lib.compact ss).length c) ⟨_, Tryz.func121, by kernel_rfl, by kernel_rfl⟩ encStr hM (Lib.compact ss ++ List.replicate (ss.length - (Lib.compact ss).length) []).toArray (by simp [strs_length]; omega) (fun w hw => ?_) ?_
  · refine (Tryz.slices_Compact_string b 0 c ss w (holds_row hw hM) (by omega) hc).mono fun e w' ⟨h1, q, h2⟩ => ⟨h1, q, #[], ?_⟩
    rw [Sort.grow_empty]
    exact h2
  · simp only [enc_strs]; exact h
theorem sorted_does (v : Value) (ss : List (List UInt8)) (M0 M : Mem) (R : Value → Mem → Prop) (ho : Own M0 v (strs ss) M) (h1 : 1 ≤ ss.length) (hn : ss.length ≤ 1000000)
    (h : ∀ v' M', Rd M' v' (strs (srt ss)) → Sub M0 M' → R v' M') : Does Tryz.prog 87 [v] M R := by
  rcases ho with ⟨_, e, _⟩ | ⟨b, c, rfl, hb, hc, rfl⟩
  · have := congrArg List.length e
    rw [strs_length, List.length_nil] at this
    omega
  rw [strs_length] at hc ⊢
  refine does_fn tab_ok Tryz.func87 rfl (by kernel_rfl) (by kernel_rfl) Tryz.ntmps87 Tryz.results87 rfl ?_
  simp (disch := omega)
  have hm : (ss.mergeSort fun x y => decide (x ≤ y)).length = ss.length := List.length_mergeSort _
  have hsr : srt ss = Lib.compact (ss.mergeSort fun x y => decide (x ≤ y)) := rfl
  have hle := compact_le (ss.mergeSort fun x y => decide (x ≤ y))
  refine slicesSort_does b c ss _ _ (put_same _ _ _) hn ?_
  simp (disch := omega)
  generalize (ss.mergeSort fun x y => decide (x ≤ y)) = zs at *
  rw [← hm]
  refine slicesCompact_does b c zs _ _ (put_same _ _ _) (by omega) (by omega) ?_
  simp (disch := omega)
  refine ret_of (h _ _ ?_ ?_)
  · rw [hsr]
    refine .inr ⟨b, 0, c, by rw [strs_length], ?_, by rw [strs_length]; omega⟩
    rw [sub_of (put_same _ _ _)]
    simp [strs, optIf]
  · exact (((Sub.refl _).put hb _).ovr hb _).ovr hb _
theorem factors_does (w : List UInt8) (m : Nat) (M : Mem) (R : Value → Mem → Prop) (hl : w.length ≤ 60) (hm : m ≤ w.length)
    (h : ∀ v' M', Rd M' v' (strs (srt (segsA w m (w.length - m + 1)))) → Sub M M' → R v' M') : Does Tryz.prog 86 [str w, .int .i64 m] M R := by
  refine does_fn tab_ok Tryz.func86 rfl (by kernel_rfl) (by kernel_rfl) Tryz.ntmps86 Tryz.results86 rfl ?_
  simp (disch := omega)
  refine loop_to tab_ok [5, 6, 7, 8, 9, 10, 11, 12, 13, 14, 15, 16, 17, 18, 19, 20, 21, 22, 23] (fun x : Nat × Value => [(6, .int .i64 x.1), (5, x.2)]) (fun x M' => x.1 ≤ w.length - m + 1 ∧ Own M x.2 (strs (segsA w m x.1)) M') (fun x => w.length - m + 1 - x.1) (0, .slice none 0 0) (by kernel_rfl) (by simp (disch := omega)) ⟨by omega, Own.nil _⟩ ?_
  rintro ⟨i, v⟩ M' g ⟨hi, ho⟩
  simp only at hi ho
  have hln := segsA_length w m i
  by_cases hlt : i < w.length - m + 1
  · have hsg := seg_int (w := w) (a := i) (m := m)
    have hsu := segsA_succ w m i
    generalize seg w i m = u at *
    generalize segsA w m i = L at *
    simp (disch := omega) [hsg]
    intro b' hb'
    simp (disch := omega)
    refine app_own ho ((Sub.refl _).put hb' _) (by simp (disch := omega); rfl) rfl rfl (by omega) (by simp (disch := omega)) (by simp (disch := omega); omega) ?_
    intro v' M'' N'' ho' hs'
    simp (disch := omega)
    refine Rnd.mk'' M'' (i + 1, v') hs' (by simp only; omega) (by (repeat (first | exact km | refine kp rfl ?_ | refine km' rfl ?_))) (by simp (disch := omega)) ⟨by simp only; omega, ?_⟩
    simp only
    rw [hsu, ← strs_snoc]
    exact ho'
  · have hi' : i = w.length - m + 1 := by omega
    subst hi'
    generalize segsA w m (w.length - m + 1) = L at *
    simp (disch := omega)
    refine sorted_does v L M _ _ ho (by omega) (by omega) ?_
    intro v' M1 hr hs
    simp (disch := omega)
    exact ret_of (h v' M1 hr hs)
end Go.Proofs.YthpcojnpiggaiaaGreat
/-! Contracts: balances of words, of the program. -/
namespace Go.Proofs.YthpcojnpiggaiaaGreat
open Go
set_option linter.unusedSimpArgs false
set_option linter.unusedVariables false

theorem ints_not_str {L : List Int} {k : Nat} {u : List UInt8} (h : (ints L)[k]? = some (str u)) : False := by
  rw [ints_get] at h
  cases hk : L[k]? with
  | none => rw [hk] at h; cases h
  | some x => rw [hk] at h; cases h
theorem Sub.del {M N : Mem} {b : Nat} (h : Sub M N) (hb : M b = none) : Sub M (N.del b) := by
  intro i B hi
  have hne : i ≠ b := by rintro rfl; rw [hb] at hi; cases hi
  simp only [Mem.del, if_neg hne]
  exact h _ _ hi
theorem del_sub (M : Mem) (b : Nat) : Sub (M.del b) M := by
  intro i B hi
  by_cases e : i = b
  · simp [Mem.del, e] at hi
  · simpa [Mem.del, e] using hi
theorem get_del {M : Mem} {b i k : Nat} (h : i ≠ b) : (M.del b).get? i k = M.get? i k := by simp [Mem.get?, Mem.del, h]
theorem balance_does (w : List UInt8) (M : Mem) (R : Value → Mem → Prop) (hw : isWord w = true) (h : ∀ M', Sub M M' → R (.int .i64 (balM w w.length)) M') : Does Tryz.prog 84 [str w] M R := by
  have h60 := isWord_len hw
  have hall := isWord_all hw
  refine does_fn tab_ok Tryz.func84 rfl (by kernel_rfl) (by kernel_rfl) Tryz.ntmps84 Tryz.results84 rfl ?_
  simp (disch := omega)
  refine loop_to tab_ok [3, 4, 5, 6, 8, 9, 10, 11, 15, 16, 17, 18, 19, 20, 21, 22, 23, 24, 25, 26, 27, 28, 29, 30, 31, 32, 33, 34, 35, 36, 37, 38, 39, 40, 41, 42, 43, 44, 45, 46, 47, 48, 49, 50, 51, 52, 53, 54, 55, 56, 57, 58, 59, 60, 61, 62, 63, 64, 65, 66, 67, 68, 69, 70, 71, 72, 73, 74, 75, 76, 77, 78, 79] (fun m : Nat => [(15, .int .i64 m), (3, .int .i64 (balM w (m - 1)))]) (fun m M' => m ≤ w.length + 1 ∧ Sub M M') (fun m => w.length + 1 - m) 0 (by kernel_rfl) (by simp (disch := omega); rfl) ⟨Nat.zero_le _, Sub.refl _⟩ ?_
  rintro m N g ⟨hm, hs⟩
  have hbal := balM_in h60 (m - 1)
  by_cases hlt : m < w.length + 1
  · have hnext : spr (balM w (m - 1)) (loW w m) (hiW w m) 5 = balM w (m + 1 - 1) := by
      cases m with
      | zero => exact bal_zero w
      | succ m => rfl
    have hsame := fun L => bal_same (w := w) (m := m) (L := L) (by omega)
    have hlo := loW_in h60 m
    have hhi := hiW_in h60 m
    have htl : (w.take m).length ≤ 1099511627776 := by rw [List.length_take]; omega
    have hta : (w.take m).all isL = true := by have := seg_all hall 0 m; rw [seg_zero] at this; exact this
    generalize balM w (m - 1) = best at *
    simp (disch := omega)
    refine draws [0, 1, 2, 4, 5, 6, 3, 7, 8, 9] [0, 0, 0, 0, 0, 0, 1, 1, 0, 0] tab_ok (by kernel_rfl) (by kernel_rfl) (by kernel_rfl) (by rfl) ?_
    simp (disch := omega)
    refine count_does (w.take m) _ _ htl hta ?_
    intro v1 N1 o1
    have q1 := o1.sub
    simp (disch := omega)
    refine ⟨q1, ?_⟩
    refine count_does (w.take m) _ _ htl hta ?_
    intro v2 N2 o2
    have q2 := o2.sub
    simp (disch := omega)
    refine ⟨q2, ?_⟩
    rw [counts_vec] at o1 o2
    obtain ⟨b1, c1, rfl, hb1, hc1, rfl⟩ := o1.block
    obtain ⟨b2, c2, rfl, hb2, hc2, rfl⟩ := o2.block
    have sN := q1.trans q2
    have h12 : b1 ≠ b2 := by rintro rfl; rw [put_same] at hb2; cases hb2
    have hb2' : N b2 = none := by rw [put_ne _ _ (Ne.symm h12)] at hb2; exact hb2
    have k1 : ((N.put b1 (.cells true (ints (vec (cnt (w.take m)))) c1)).put b2 (.cells true (ints (vec (cnt (w.take m)))) c2)) b1 = some (.cells true (ints (vec (cnt (w.take m)))) c1) := by rw [put_ne _ _ h12, put_same]
    have k2 : ((N.put b1 (.cells true (ints (vec (cnt (w.take m)))) c1)).put b2 (.cells true (ints (vec (cnt (w.take m)))) c2)) b2 = some (.cells true (ints (vec (cnt (w.take m)))) c2) := put_same _ _ _
    generalize (N.put b1 (.cells true (ints (vec (cnt (w.take m)))) c1)).put b2 (.cells true (ints (vec (cnt (w.take m)))) c2) = N2 at *
    clear q1 q2 o1 o2 hb2
    have hbase : ∀ k, 0 ≤ cnt (w.take m) k ∧ cnt (w.take m) k ≤ 60 := fun k => cnt_word (by rw [List.length_take]; omega) k
    generalize cnt (w.take m) = base at *
    refine factors_does w m _ _ h60 (by omega) ?_
    intro vf N3 hr sF
    have hmem := fun x => mem_srt (segsA w m (w.length - m + 1)) x
    have hlen := srt_le (segsA w m (w.length - m + 1))
    rw [segsA_length] at hlen
    obtain ⟨elo, ehi⟩ := hsame _ hmem
    have hsl : ∀ u ∈ srt (segsA w m (w.length - m + 1)), u.length ≤ 60 ∧ u.all isL = true := by
      intro u hu
      obtain ⟨t, _, rfl⟩ := List.mem_map.1 ((hmem u).1 hu)
      refine ⟨?_, seg_all hall t m⟩
      unfold seg
      rw [List.length_drop, List.length_take]
      omega
    generalize srt (segsA w m (w.length - m + 1)) = ss at *
    obtain ⟨a, c, rfl, ha⟩ := hr.opened
    rw [strs_length] at ha ⊢
    have k1' := sF _ _ k1
    have k2' := sF _ _ k2
    obtain ⟨D, hD1, hD2, hDN, hD3, hget⟩ : ∃ D : Mem, D b1 = none ∧ D b2 = none ∧ Sub N D ∧ Sub D N3 ∧ ∀ i, (hi : i < ss.length) → ∃ b o, a = some ⟨b, o, none⟩ ∧ D.get? b (o + i) = some (str ss[i]) := by
      refine ⟨(N3.del b1).del b2, by simp [Mem.del], by simp [Mem.del], ((sN.trans sF).del hb1).del hb2', (del_sub _ _).trans (del_sub _ _), ?_⟩
      intro i hi
      rcases ha with hz | ⟨b, o, rfl, ha⟩
      · omega
      have hg := ha i hi
      rw [strs_get, List.getElem?_eq_getElem hi] at hg
      have n1 : b ≠ b1 := by rintro rfl; rw [get_of k1'] at hg; exact ints_not_str hg
      have n2 : b ≠ b2 := by rintro rfl; rw [get_of k2'] at hg; exact ints_not_str hg
      exact ⟨b, o, rfl, by rw [get_del n2, get_del n1]; exact hg⟩
    simp (disch := omega)
    refine loop_to tab_ok [8, 9, 10, 30, 31, 32, 33, 34, 35, 36, 37, 38, 39, 40, 41, 42, 43, 44, 45, 46, 47, 48, 49, 50, 51, 52, 53, 54, 55, 56, 57, 58, 59, 60, 61] (fun i : Nat => [(30, .int .i64 i)]) (fun i M1 => i ≤ ss.length ∧ Sub D M1 ∧ M1 b1 = some (.cells true (ints (vec (foldG mnF base (ss.take i)))) c1) ∧ M1 b2 = some (.cells true (ints (vec (foldG mxF base (ss.take i)))) c2)) (fun i => ss.length - i) 0 (by kernel_rfl) (by simp (disch := omega)) ⟨by omega, hD3, k1', k2'⟩ ?_
    rintro i M1 g1 ⟨hi, s1, l1, l2⟩
    have htk : ∀ u ∈ ss.take i, u.length ≤ 60 := fun u hu => (hsl u (List.mem_of_mem_take hu)).1
    have hlo1 : ∀ k, 0 ≤ foldG mnF base (ss.take i) k ∧ foldG mnF base (ss.take i) k ≤ 60 := foldG_in mnF_in hbase htk
    have hhi1 : ∀ k, 0 ≤ foldG mxF base (ss.take i) k ∧ foldG mxF base (ss.take i) k ≤ 60 := foldG_in mxF_in hbase htk
    by_cases hil : i < ss.length
    · obtain ⟨b, o, rfl, hg⟩ := hget i hil
      have e1 := vec_five mnF base (ss.take i) ss[i]
      have e2 := vec_five mxF base (ss.take i) ss[i]
      rw [← take_snoc ss hil] at e1 e2
      obtain ⟨hu60, hsA⟩ := hsl _ (List.getElem_mem hil)
      have hg1 := get_keep hg s1
      generalize ss[i] = u at *
      have hcu := fun k => cnt_word hu60 k
      generalize foldG mnF base (ss.take i) = lo at *
      generalize foldG mxF base (ss.take i) = hi' at *
      simp (disch := omega) [hg1]
      refine count_does u _ _ (by omega) hsA ?_
      intro v3 M2 o3
      rw [counts_vec] at o3
      obtain ⟨b3, c3, rfl, hb3, hc3, rfl⟩ := o3.block
      have h13 : b1 ≠ b3 := by rintro rfl; rw [l1] at hb3; cases hb3
      have h23 : b2 ≠ b3 := by rintro rfl; rw [l2] at hb3; cases hb3
      have z1 := o3.sub _ _ l1
      have z2 := o3.sub _ _ l2
      have z3 : (M1.put b3 (.cells true (ints (vec (cnt u))) c3)) b3 = some (.cells true (ints (vec (cnt u))) c3) := put_same _ _ _
      have zs := s1.trans o3.sub
      generalize M1.put b3 (.cells true (ints (vec (cnt u))) c3) = M2 at *
      clear o3
      simp (disch := omega)
      refine loop_to tab_ok [9, 10, 37, 38, 39, 40, 41, 42, 43, 44, 45, 46, 47, 48, 49, 50, 51, 52, 53, 54, 55, 56, 57, 58, 59, 60] (fun j : Nat => [(37, .int .i64 j)]) (fun j M3 => j ≤ 5 ∧ Sub D M3 ∧ M3 b1 = some (.cells true (ints (vec (stpB mnF lo u j))) c1) ∧ M3 b2 = some (.cells true (ints (vec (stpB mxF hi' u j))) c2) ∧ M3 b3 = some (.cells true (ints (vec (cnt u))) c3)) (fun j => 5 - j) 0 (by kernel_rfl) (by simp (disch := omega)) ⟨by omega, zs, by rw [stpB_zero]; exact z1, by rw [stpB_zero]; exact z2, z3⟩ ?_
      rintro j M3 g2 ⟨hj, s3, y1, y2, y3⟩
      by_cases hj5 : j < 5
      · obtain ⟨L1, hL1⟩ : ∃ x, x = ints (vec (stpB mnF lo u (j + 1))) := ⟨_, rfl⟩
        obtain ⟨L2, hL2⟩ : ∃ x, x = ints (vec (stpB mxF hi' u (j + 1))) := ⟨_, rfl⟩
        have p1 : (ints (vec (stpB mnF lo u j))).set j (.int .i64 (if cnt u j < lo j then cnt u j else lo j)) = L1 := by rw [hL1]; exact vec_put mnF lo u hj5
        have p2 : (ints (vec (stpB mxF hi' u j))).set j (.int .i64 (if hi' j < cnt u j then cnt u j else hi' j)) = L2 := by rw [hL2]; exact vec_put mxF hi' u hj5
        have t1 := vec_at (stpB mnF lo u j) hj5
        have t2 := vec_at (stpB mxF hi' u j) hj5
        have t3 := vec_at (cnt u) hj5
        rw [stpB_at] at t1 t2
        have r1 := vec_len (stpB mnF lo u j)
        have r2 := vec_len (stpB mxF hi' u j)
        have aL := hlo1 j
        have aH := hhi1 j
        have aC := hcu j
        generalize ints (vec (stpB mnF lo u j)) = V1 at *
        generalize ints (vec (stpB mxF hi' u j)) = V2 at *
        generalize ints (vec (cnt u)) = V3 at *
        generalize cnt u j = x3 at *
        generalize lo j = x1 at *
        generalize hi' j = x2 at *
        simp (disch := omega) [get_of y3, t3]
        refine plays (lights [0, 1, 2, 3, 4, 5, 6, 7, 8, 9, 10, 11, 12, 13, 14, 15, 16] (.one 17 2 (.light 18 (.one 19 2 .fin)))) tab_ok (by kernel_rfl) (by kernel_rfl) (by rfl) ?_
        simp (disch := omega) [get_of y1, get_of y2, get_of y3, t1, t2, t3, at_in t1, at_in t2, y1, y2, p1, p2]
        try simp only [set_is]
        try simp (disch := omega) [y2, p2]
        refine Rnd.mk' (j + 1) (by omega) (by (repeat (first | exact km | refine kp rfl ?_ | refine km' rfl ?_))) (by simp (disch := omega)) ⟨by omega, (s3.ovr hD2 _).ovr hD1 _, ?_, ?_, ?_⟩
        · rw [← hL1]; exact put_same _ _ _
        · rw [put_ne _ _ (Ne.symm h12), ← hL2]; exact put_same _ _ _
        · rw [put_ne _ _ (Ne.symm h13), set_is, put_ne _ _ (Ne.symm h23)]; exact y3
      · have hj' : j = 5 := by omega
        subst hj'
        simp (disch := omega)
        rw [e1] at y1
        rw [e2] at y2
        exact Rnd.mk' (i + 1) (by omega) (by (repeat (first | exact km | refine kp rfl ?_ | refine km' rfl ?_))) (by simp (disch := omega)) ⟨by omega, s3, y1, y2⟩
    · have hi' : i = ss.length := by omega
      subst hi'
      rw [List.take_length] at l1 l2 hlo1 hhi1
      rw [elo] at l1 hlo1
      rw [ehi] at l2 hhi1
      generalize loW w m = lo at *
      generalize hiW w m = hi' at *
      simp (disch := omega)
      refine loop_to tab_ok [3, 11, 64, 65, 66, 67, 68, 69, 70, 71, 72, 73, 74, 75, 76, 77, 78] (fun j : Nat => [(64, .int .i64 j), (3, .int .i64 (spr best lo hi' j))]) (fun j M3 => j ≤ 5 ∧ M3 = M1) (fun j => 5 - j) 0 (by kernel_rfl) (by simp (disch := omega); rfl) ⟨by omega, rfl⟩ ?_
      rintro j M3 g2 ⟨hj, rfl⟩
      have hsp := spr_in hbal hlo1 hhi1 j
      have ess : spr best lo hi' (j + 1) = mxF (spr best lo hi' j) (hi' j - lo j) := rfl
      unfold mxF at ess
      by_cases hj5 : j < 5
      · generalize spr best lo hi' j = bj at *
        have t1 := vec_at lo hj5
        have t2 := vec_at hi' hj5
        have a1 := hlo1 j
        have a2 := hhi1 j
        generalize lo j = x at *
        generalize hi' j = y at *
        simp (disch := omega)
        refine draws [0, 1, 2, 3, 4, 5, 6, 7, 8, 9, 10, 11] [0, 0, 0, 0, 0, 0, 0, 0, 0, 0, 0, 0] tab_ok (by kernel_rfl) (by kernel_rfl) (by kernel_rfl) (by rfl) ?_
        simp (disch := omega) [get_of l1, get_of l2, t1, t2]
        exact Rnd.mk' (j + 1) (by omega) (by (repeat (first | exact km | refine kp rfl ?_ | refine km' rfl ?_))) (by simp (disch := omega) [ess]) ⟨by omega, rfl⟩
      · have hj' : j = 5 := by omega
        subst hj'
        simp (disch := omega)
        exact Rnd.mk' (m + 1) (by omega) (by (repeat (first | exact km | refine kp rfl ?_ | refine km' rfl ?_))) (by simp (disch := omega) [hnext]) ⟨by omega, hDN.trans s1 |> hs.trans⟩
  · have hm' : m = w.length + 1 := by omega
    subst hm'
    simp (disch := omega)
    exact ret_sub (Sub.refl _) (h _ hs)
theorem spec_BalanceOf (w : List UInt8) (M : Mem) (R : Value → Mem → Prop) (hl : w.length ≤ 1099511627776) (h : ∀ M', Sub M M' → R (tup2 (if isWord w then Value.int .i64 (balM w w.length) else .int .i64 0) (wcode w)) M') : Does Tryz.prog 31 [str w] M R := by
  refine does_fn tab_ok Tryz.func31 rfl (by kernel_rfl) (by kernel_rfl) Tryz.ntmps31 Tryz.results31 rfl ?_
  simp (disch := omega)
  refine l01Is_does w _ _ hl ?_
  unfold tup2 wcode at h
  cases hw : isWord w
  · rw [hw] at h
    simp (disch := omega)
    exact ret_of (h _ (Sub.refl _))
  · rw [hw] at h
    simp (disch := omega)
    refine l07Balance_does w _ _ hw ?_
    intro M' hs
    simp (disch := omega)
    exact ret_of (h _ hs)
theorem impl_BalanceOf (w : List UInt8) (M : Mem) (R : Value → Mem → Prop) (hl : w.length ≤ 1099511627776) (h : ∀ M', Sub M M' → R (tup2 (if isWord w then Value.int .i64 (balM w w.length) else .int .i64 0) (wcode w)) M') : Does Tryz.prog 30 [str w] M R := by
  refine does_fn tab_ok Tryz.func30 rfl (by kernel_rfl) (by kernel_rfl) Tryz.ntmps30 Tryz.results30 rfl ?_
  simp (disch := omega)
  intro b1 hb1
  simp (disch := omega)
  have hs1 : Sub M (M.put b1 (.cells true [str w] 1)) := (Sub.refl _).put hb1 _
  refine wordCode_does _ _ [w] true (fun _ => True) _ _ (Rd.new rfl (Nat.le_refl 1)) (fine1 hl) (by simp) trivial stab_true (always_tells _) ?_
  rw [codeOf1]
  unfold tup2 wcode at h
  cases hw : isWord w
  · rw [hw] at h
    simp (disch := omega)
    exact ret_of (h _ hs1)
  · rw [hw] at h
    simp (disch := omega)
    refine balance_does w _ _ hw ?_
    intro M' hs
    simp (disch := omega)
    exact ret_of (h _ (hs1.trans hs))
theorem spec_IsBalancedWord (w : List UInt8) (M : Mem) (R : Value → Mem → Prop) (hl : w.length ≤ 1099511627776) (h : ∀ M', Sub M M' → R (tup2 (if isWord w then Value.bool (decide (balM w w.length ≤ 1)) else .bool false) (wcode w)) M') : Does Tryz.prog 33 [str w] M R := by
  refine does_fn tab_ok Tryz.func33 rfl (by kernel_rfl) (by kernel_rfl) Tryz.ntmps33 Tryz.results33 rfl ?_
  simp (disch := omega)
  refine l01Is_does w _ _ hl ?_
  unfold tup2 wcode at h
  cases hw : isWord w
  · rw [hw] at h
    simp (disch := omega)
    exact ret_of (h _ (Sub.refl _))
  · rw [hw] at h
    simp (disch := omega)
    refine l07Balance_does w _ _ hw ?_
    intro M' hs
    simp (disch := omega)
    exact ret_of (h _ hs)
theorem impl_IsBalancedWord (w : List UInt8) (M : Mem) (R : Value → Mem → Prop) (hl : w.length ≤ 1099511627776) (h : ∀ M', Sub M M' → R (tup2 (if isWord w then Value.bool (decide (balM w w.length ≤ 1)) else .bool false) (wcode w)) M') : Does Tryz.prog 32 [str w] M R := by
  refine does_fn tab_ok Tryz.func32 rfl (by kernel_rfl) (by kernel_rfl) Tryz.ntmps32 Tryz.results32 rfl ?_
  simp (disch := omega)
  intro b1 hb1
  simp (disch := omega)
  have hs1 : Sub M (M.put b1 (.cells true [str w] 1)) := (Sub.refl _).put hb1 _
  refine wordCode_does _ _ [w] true (fun _ => True) _ _ (Rd.new rfl (Nat.le_refl 1)) (fine1 hl) (by simp) trivial stab_true (always_tells _) ?_
  rw [codeOf1]
  unfold tup2 wcode at h
  cases hw : isWord w
  · rw [hw] at h
    simp (disch := omega)
    exact ret_of (h _ hs1)
  · rw [hw] at h
    simp (disch := omega)
    refine balance_does w _ _ hw ?_
    intro M' hs
    simp (disch := omega)
    exact ret_of (h _ (hs1.trans hs))
end Go.Proofs.YthpcojnpiggaiaaGreat
/-! Contract: IsBalancedWord of the program. -/
namespace Go.Proofs.YthpcojnpiggaiaaGreat
open Go
set_option linter.unusedSimpArgs false
set_option linter.unusedVariables false
theorem impl_IsBal2 (w : List UInt8) (M : Mem) (R : Value → Mem → Prop) (hl : w.length ≤ 1099511627776) (h : ∀ M', Sub M M' → R (tup2 (if isWord w then Value.bool (decide (balM w w.length ≤ 1)) else .bool false) (wcode w)) M') : Does Tryz.prog 32 [str w] M R := by
  refine does_fn tab_ok Tryz.func32 rfl (by kernel_rfl) (by kernel_rfl) Tryz.ntmps32 Tryz.results32 rfl ?_
  simp (disch := omega)
  intro b1 hb1
  simp (disch := omega)
  have hs1 : Sub M (M.put b1 (.cells true [str w] 1)) := (Sub.refl _).put hb1 _
  refine wordCode_does _ _ [w] true (fun _ => True) _ _ (Rd.new rfl (Nat.le_refl 1)) (fine1 hl) (by simp) trivial stab_true (always_tells _) ?_
  rw [codeOf1]
  unfold tup2 wcode at h
  cases hw : isWord w
  · rw [hw] at h
    simp (disch := omega)
    exact ret_of (h _ hs1)
  · rw [hw] at h
    simp (disch := omega)
    refine balance_does w _ _ hw ?_
    intro M' hs
    simp (disch := omega)
    exact ret_of (h _ (hs1.trans hs))
end Go.Proofs.YthpcojnpiggaiaaGreat

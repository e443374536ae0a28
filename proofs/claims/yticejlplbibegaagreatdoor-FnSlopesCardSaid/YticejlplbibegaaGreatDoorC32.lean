/- Contracts: lists of words sorted and compacted, by the kit's contracts of slices.Sort and slices.Compact; factors. -/
import Derived.Test.YticejlplbibegaaGreatDoorE11
import Derived.Test.YticejlplbibegaaGreatDoorC20
import Derived.Test.YticejlplbibegaaGreatDoorM7
namespace Go.Proofs.YticejlplbibegaaGreatDoor
open Go Go.RowKit
set_option linter.unusedSimpArgs false
set_option linter.unusedVariables false

theorem row_heap {α : Type} [Inhabited α] (enc : α → Value) (w : World) (b n : Nat) (d : Array α) (os : Array Obj) {k : Nat} (hk : k < w.heap.size) :
    (Sort.grow (Sort.putRow enc (Sort.ahead w n) b 0 d) os).heap[k]? = if b = k then (w.heap[k]?).map (Sort.onCells (Sort.putCells enc 0 d)) else w.heap[k]? := by
  rw [Sort.heap_grow_old _ _ (by simpa [Sort.ahead] using hk)]
  simp only [Sort.putRow, Sort.mapBlock, Array.getElem?_modify, Sort.ahead]
/-- A row of a block of its own is put anew. -/
theorem rep_row {α : Type} [Inhabited α] {M : Mem} {w : World} (enc : α → Value) (hw : Rep M w) {b c : Nat} {xs : List Value} (hM : M b = some (.cells true xs c)) (d : Array α) (hd : d.size = xs.length) (n : Nat) (os : Array Obj) :
    Rep (M.put b (.cells true (d.toList.map enc) c)) (Sort.grow (Sort.putRow enc (Sort.ahead w n) b 0 d) os) ∧ Ext M w (M.put b (.cells true (d.toList.map enc) c)) (Sort.grow (Sort.putRow enc (Sort.ahead w n) b 0 d) os) := by
  have hb := told_lt hw hM
  refine ⟨?_, rfl, rfl, rfl, ?_, ?_, ?_⟩
  · intro i B hB
    by_cases hi : i = b
    · subst hi
      rw [put_same] at hB
      injection hB with hB
      subst hB
      obtain ⟨cc, e, fr, h1, h2, ⟨ys, h3⟩, h4⟩ := hw i _ hM
      refine ⟨Sort.putCells enc 0 d cc, e, fr, ?_, by simpa [Sort.putCells] using h2, ⟨ys, ?_⟩, h4⟩
      · rw [row_heap enc w i n d os hb, if_pos rfl, h1]; rfl
      · apply List.ext_getElem?
        intro k
        have h3' : cc[k]? = (xs ++ ys)[k]? := by rw [← h3]; simp
        rw [Array.getElem?_toList]
        simp only [Sort.putCells, Array.getElem?_mapIdx, h3']
        by_cases hk : k < d.size
        · rw [List.getElem?_append_left (by omega), List.getElem?_append_left (by simpa using hk), List.getElem?_eq_getElem (by omega), Option.map_some, if_pos ⟨Nat.zero_le _, by omega⟩, List.getElem?_map]
          simp [hk]
        · rw [List.getElem?_append_right (by omega), List.getElem?_append_right (by simp; omega)]
          simp only [List.length_map, Array.length_toList, hd]
          cases ys[k - xs.length]? with
          | none => rfl
          | some y => rw [Option.map_some, if_neg (by omega)]
    · rw [put_ne _ _ hi] at hB
      exact Blk.holds_of (by rw [row_heap enc w b n d os (told_lt hw hB), if_neg (Ne.symm hi)]) (hw i B hB)
  · simp [Sort.ahead]
  · intro k hk ho
    have hne : b ≠ k := by rintro rfl; exact ho ⟨_, hM, rfl⟩
    rw [row_heap enc w b n d os hk, if_neg hne]
  · rintro k ⟨B, h1, h2⟩
    by_cases hi : k = b
    · subst hi; exact .inl ⟨_, hM, rfl⟩
    · rw [put_ne _ _ hi] at h1
      exact .inl ⟨B, h1, h2⟩
/-- A call by a contract of the kit that puts a row anew. -/
theorem does_row {α : Type} [Inhabited α] {P : Program} {f : FuncId} {args : List Value} {M : Mem} {R : Value → Mem → Prop} (v : Value) (hb : HasBody P f) (enc : α → Value) {b c : Nat} {xs : List Value} (hM : M b = some (.cells true xs c)) (d : Array α) (hd : d.size = xs.length)
    (h : ∀ w, Rep M w → Calls P f args.toArray w fun e w' => e = .returned v ∧ ∃ n os, w' = Sort.grow (Sort.putRow enc (Sort.ahead w n) b 0 d) os) (hR : R v (M.put b (.cells true (d.toList.map enc) c))) : Does P f args M R :=
  ⟨hb, fun w hw => (h w hw).mono fun e w' ⟨he, n, os, hw'⟩ => by
    subst hw'
    obtain ⟨h1, h2⟩ := rep_row enc hw hM d hd n os
    exact ⟨v, _, he, h1, h2, hR⟩⟩
/-- The same, of whose cells only the first ones are told on. -/
theorem does_rowP {α : Type} [Inhabited α] {P : Program} {f : FuncId} {args : List Value} {M : Mem} {R : Value → Mem → Prop} (v : Value) (hb : HasBody P f) (enc : α → Value) {b c : Nat} {xs : List Value} (hM : M b = some (.cells true xs c)) (d : Array α) (hd : d.size = xs.length) (pre rest : List Value) (hpre : d.toList.map enc = pre ++ rest)
    (h : ∀ w, Rep M w → Calls P f args.toArray w fun e w' => e = .returned v ∧ ∃ n os, w' = Sort.grow (Sort.putRow enc (Sort.ahead w n) b 0 d) os) (hR : R v (M.put b (.cells true pre c))) : Does P f args M R :=
  ⟨hb, fun w hw => (h w hw).mono fun e w' ⟨he, n, os, hw'⟩ => by
    subst hw'
    obtain ⟨h1, h2⟩ := rep_row enc hw hM d hd n os
    refine ⟨v, _, he, ?_, ?_, hR⟩
    · intro i B hB
      by_cases hi : i = b
      · subst hi
        rw [put_same] at hB
        injection hB with hB
        subst hB
        obtain ⟨cc, e, fr, q1, q2, ⟨ys, q3⟩, q4⟩ := h1 i _ (put_same _ _ _)
        exact ⟨cc, e, fr, q1, q2, ⟨rest ++ ys, by rw [q3, hpre, List.append_assoc]⟩, q4⟩
      · rw [put_ne _ _ hi] at hB
        exact h1 i B (by rw [put_ne _ _ hi]; exact hB)
    · refine ⟨h2.os, h2.tape, h2.output, h2.size, h2.block, ?_⟩
      rintro i ⟨B, k1, k2⟩
      refine h2.own i ?_
      by_cases hi : i = b
      · subst hi; exact ⟨_, put_same _ _ _, rfl⟩
      · rw [put_ne _ _ hi] at k1
        exact ⟨B, by rw [put_ne _ _ hi]; exact k1, k2⟩⟩
theorem holds_row {M : Mem} {w : World} (hw : Rep M w) {b c : Nat} {ss : List (List UInt8)} (hM : M b = some (.cells true (strs ss) c)) : Sort.Holds encStr w b 0 ss.toArray := by
  intro j hj
  have hj' : j < ss.length := by simpa using hj
  have hg : M.get? b (0 + j) = some (str ss[j]) := by rw [get_of hM, Nat.zero_add, strs_get, List.getElem?_eq_getElem hj']; rfl
  refine ⟨?_, ?_⟩
  · rw [hw.cell hg, getElem!_pos _ j hj]
    rfl
  · obtain ⟨cc, e, fr, h1, h2, ⟨ys, h3⟩, h4⟩ := hw b _ hM
    have hle := hw.le hM
    rw [strs_length] at hle
    have := h4 rfl
    obtain ⟨lo, hi⟩ := fr
    simp only [World.frozen?, h1, Nat.zero_add, Bool.and_eq_false_iff, decide_eq_false_iff_not]
    simp only at this
    omega
theorem enc_strs (ss : List (List UInt8)) : ss.map encStr = strs ss := by
  unfold strs
  apply List.map_congr_left
  intro l _
  rfl
def srt (ss : List (List UInt8)) : List (List UInt8) := Lib.compact (ss.mergeSort fun x y => decide (x ≤ y))
theorem mem_upTo {α : Type} [Inhabited α] [DecidableEq α] (d : Array α) : ∀ m, ∀ x, x ∈ Lib.compactUpTo d m ↔ ∃ j, j < m ∧ d[j]! = x
  | 0, x => by simp [Lib.compactUpTo]
  | m + 1, x => by
    rw [Lib.compactUpTo_succ, List.mem_append, mem_upTo d m x]
    constructor
    · rintro (⟨j, h1, h2⟩ | h)
      · exact ⟨j, by omega, h2⟩
      · split at h
        · exact ⟨m, by omega, (List.mem_singleton.1 h).symm⟩
        · simp at h
    · rintro ⟨j, h1, h2⟩
      by_cases hj : j < m
      · exact .inl ⟨j, hj, h2⟩
      · have hj' : j = m := by omega
        subst hj'
        cases hk : Lib.keeps d j with
        | true => exact .inr (by rw [if_pos rfl]; simp [h2])
        | false =>
          simp only [Lib.keeps, decide_eq_false_iff_not, not_or, ne_eq, Decidable.not_not] at hk
          exact .inl ⟨j - 1, by omega, by rw [← hk.2]; exact h2⟩
theorem mem_compact {α : Type} [Inhabited α] [DecidableEq α] (zs : List α) (x : α) : x ∈ Lib.compact zs ↔ x ∈ zs := by
  unfold Lib.compact
  rw [mem_upTo]
  constructor
  · rintro ⟨j, h1, h2⟩
    rw [getElem!_pos _ j (by simpa using h1)] at h2
    rw [← h2]
    simp
  · intro h
    obtain ⟨j, h1, h2⟩ := List.mem_iff_getElem.1 h
    exact ⟨j, h1, by rw [getElem!_pos _ j (by simpa using h1)]; simpa using h2⟩
theorem compact_le {α : Type} [Inhabited α] [DecidableEq α] (zs : List α) : (Lib.compact zs).length ≤ zs.length := by
  unfold Lib.compact Lib.compactUpTo
  rw [List.length_map]
  have := List.length_filter_le (Lib.keeps zs.toArray) (List.range zs.length)
  rw [List.length_range] at this
  exact this
theorem mem_srt (ss : List (List UInt8)) (x : List UInt8) : x ∈ srt ss ↔ x ∈ ss := by
  unfold srt
  rw [mem_compact]
  exact List.mem_mergeSort
theorem srt_le (ss : List (List UInt8)) : (srt ss).length ≤ ss.length := by
  unfold srt
  have := compact_le (ss.mergeSort fun x y => decide (x ≤ y))
  rw [List.length_mergeSort] at this
  exact this
theorem slicesSort_does (b c : Nat) (ss : List (List UInt8)) (M : Mem) (R : Value → Mem → Prop) (hM : M b = some (.cells true (strs ss) c)) (hn : ss.length ≤ 1000000)
    (h : R (.tuple #[]) (M.put b (.cells true (strs (ss.mergeSort fun x y => decide (x ≤ y))) c))) : Does Tryz.prog 185 [.slice (some ⟨b, 0, none⟩) ss.length c] M R := by
  refine does_row (.tuple #[]) ⟨_, Tryz.func185, by kernel_rfl, by kernel_rfl⟩ encStr hM (ss.mergeSort fun x y => decide (x ≤ y)).toArray (by simp [strs_length]) (fun w hw => ?_) ?_
  · exact Tryz.slices_Sort_string b 0 c ss w (holds_row hw hM) (told_lt hw hM) (by omega)
  · simp only [enc_strs]; exact h
theorem slicesCompact_does (b c : Nat) (ss : List (List UInt8)) (M : Mem) (R : Value → Mem → Prop) (hM : M b = some (.cells true (strs ss) c)) (hc : ss.length ≤ c) (hn : ss.length ≤ 1000000)
    (h : R (.slice (some ⟨b, 0, none⟩) (Lib.compact ss).length c) (M.put b (.cells true (strs (Lib.compact ss ++ List.replicate (ss.length - (Lib.compact ss).length) [])) c))) : Does Tryz.prog 186 [.slice (some ⟨b, 0, none⟩) ss.length c] M R := by
  have hle := compact_le ss
  refine does_row (.slice (some ⟨b, 0, none⟩) (Lib.compact ss).length c) ⟨_, Tryz.func186, by kernel_rfl, by kernel_rfl⟩ encStr hM (Lib.compact ss ++ List.replicate (ss.length - (Lib.compact ss).length) []).toArray (by simp [strs_length]; omega) (fun w hw => ?_) ?_
  · refine (Tryz.slices_Compact_string b 0 c ss w (holds_row hw hM) (by omega) hc).mono fun e w' ⟨h1, q, h2⟩ => ⟨h1, q, #[], ?_⟩
    rw [Sort.grow_empty]
    exact h2
  · simp only [enc_strs]; exact h
theorem sorted_does (v : Value) (ss : List (List UInt8)) (M0 M : Mem) (R : Value → Mem → Prop) (ho : Own M0 v (strs ss) M) (h1 : 1 ≤ ss.length) (hn : ss.length ≤ 1000000)
    (h : ∀ v' M', Rd M' v' (strs (srt ss)) → Sub M0 M' → R v' M') : Does Tryz.prog 167 [v] M R := by
  rcases ho with ⟨_, e, _⟩ | ⟨b, c, rfl, hb, hc, rfl⟩
  · have := congrArg List.length e
    rw [strs_length, List.length_nil] at this
    omega
  rw [strs_length] at hc ⊢
  refine does_fn tab_ok Tryz.func167 rfl (by kernel_rfl) (by kernel_rfl) Tryz.ntmps167 Tryz.results167 rfl ?_
  simp (disch := omega)
  have hm : (ss.mergeSort fun x y => decide (x ≤ y)).length = ss.length := List.length_mergeSort _
  have hsr : srt ss = Lib.compact (ss.mergeSort fun x y => decide (x ≤ y)) := rfl
  have hle := compact_le (ss.mergeSort fun x y => decide (x ≤ y))
  refine slicesSort_does b c ss _ _ (put_same _ _ _) hn ?_
  simp (disch := omega)
  generalize (ss.mergeSort fun x y => decide (x ≤ y)) = zs at *
  rw [← hm]
  refine slicesCompact_does b c zs _ _ (put_same _ _ _) (by omega) (by omega) ?_
  simp (disch := omega)
  refine ret_of (h _ _ ?_ ?_)
  · rw [hsr]
    refine .inr ⟨b, 0, c, by rw [strs_length], ?_, by rw [strs_length]; omega⟩
    rw [sub_of (put_same _ _ _)]
    simp [strs, optIf]
  · exact (((Sub.refl _).put hb _).ovr hb _).ovr hb _
theorem factors_does (w : List UInt8) (m : Nat) (M : Mem) (R : Value → Mem → Prop) (hl : w.length ≤ 60) (hm : m ≤ w.length)
    (h : ∀ v' M', Rd M' v' (strs (srt (segsA w m (w.length - m + 1)))) → Sub M M' → R v' M') : Does Tryz.prog 142 [str w, .int .i64 m] M R := by
  refine does_fn tab_ok Tryz.func142 rfl (by kernel_rfl) (by kernel_rfl) Tryz.ntmps142 Tryz.results142 rfl ?_
  simp (disch := omega)
  refine loop_to tab_ok [5, 6, 7, 8, 9, 10, 11, 12, 13, 14, 15, 16, 17, 18, 19, 20, 21, 22, 23] (fun x : Nat × Value => [(6, .int .i64 x.1), (5, x.2)]) (fun x M' => x.1 ≤ w.length - m + 1 ∧ Own M x.2 (strs (segsA w m x.1)) M') (fun x => w.length - m + 1 - x.1) (0, .slice none 0 0) (by kernel_rfl) (by simp (disch := omega)) ⟨by omega, Own.nil _⟩ ?_
  rintro ⟨i, v⟩ M' g ⟨hi, ho⟩
  simp only at hi ho
  have hln := segsA_length w m i
  by_cases hlt : i < w.length - m + 1
  · have hsg := seg_int (w := w) (a := i) (m := m)
    have hsu := segsA_succ w m i
    generalize seg w i m = u at *
    generalize segsA w m i = L at *
    simp (disch := omega) [hsg]
    intro b' hb'
    simp (disch := omega)
    refine app_own ho ((Sub.refl _).put hb' _) (by simp (disch := omega); rfl) rfl rfl (by omega) (by simp (disch := omega)) (by simp (disch := omega); omega) ?_
    intro v' M'' N'' ho' hs'
    simp (disch := omega)
    refine Rnd.mk'' M'' (i + 1, v') hs' (by simp only; omega) (by (repeat (first | exact km | refine kp rfl ?_ | refine km' rfl ?_))) (by simp (disch := omega)) ⟨by simp only; omega, ?_⟩
    simp only
    rw [hsu, ← strs_snoc]
    exact ho'
  · have hi' : i = w.length - m + 1 := by omega
    subst hi'
    generalize segsA w m (w.length - m + 1) = L at *
    simp (disch := omega)
    refine sorted_does v L M _ _ ho (by omega) (by omega) ?_
    intro v' M1 hr hs
    simp (disch := omega)
    exact ret_of (h v' M1 hr hs)
end Go.Proofs.YticejlplbibegaaGreatDoor

/- Contracts: texts of morphisms, by the kit's contract of strings.Join. -/
import Derived.Test.YticejlplbibegaaGreatDoorC20
import Derived.Test.YticejlplbibegaaGreatDoorE11
namespace Go.Proofs.YticejlplbibegaaGreatDoor
open Go Go.RowKit
set_option linter.unusedSimpArgs false
set_option linter.unusedVariables false

theorem join_does (v : Value) (ws : List (List UInt8)) (sep : List UInt8) (M : Mem) (R : Value → Mem → Prop) (hv : Rd M v (strs ws)) (h1 : 1 ≤ ws.length) (hn : ws.length ≤ 1000000) (hlen : (Lib.join ws sep).length ≤ 140737488355328) (h : R (str (Lib.join ws sep)) M) : Does Tryz.prog 73 [v, str sep] M R := by
  rcases hv with ⟨_, _, _, h0⟩ | ⟨b, o, c, rfl, hs, hc⟩
  · have := congrArg List.length h0
    rw [strs_length, List.length_nil] at this
    omega
  rw [strs_length] at hc ⊢
  refine does_below (str (Lib.join ws sep)) ⟨_, Tryz.func73, by kernel_rfl, by kernel_rfl⟩ (fun w hw => ?_) h
  have hml : (ws.map fun l : List UInt8 => (⟨⟨l⟩⟩ : ByteArray)).length = ws.length := by simp
  have hmm : (ws.map fun l : List UInt8 => (⟨⟨l⟩⟩ : ByteArray)).map (·.data.toList) = ws := by
    rw [List.map_map]
    show ws.map (fun l => l) = ws
    simp
  have hg : ∀ j, j < ws.length → M.get? b (o + j) = (strs ws)[j]? := fun j hj => sub_getN hs (by rw [strs_length]; exact hj)
  have h0 := hg 0 (by omega)
  rw [strs_get, List.getElem?_eq_getElem (by omega)] at h0
  obtain ⟨B, hB⟩ := get_told h0
  have := Tryz.strings_Join b o c (ws.map fun l : List UInt8 => (⟨⟨l⟩⟩ : ByteArray)) ⟨⟨sep⟩⟩ w ?_ (told_lt hw hB) (by rw [hml]; omega) (by rw [hml]; exact hc) (by rw [hmm]; exact hlen)
  · rw [hml, hmm] at this
    exact this
  · intro j x hx
    rw [List.getElem?_map] at hx
    cases hw2 : ws[j]? with
    | none => rw [hw2] at hx; cases hx
    | some l =>
      rw [hw2] at hx
      injection hx with hx
      subst hx
      have hj := (List.getElem?_eq_some_iff.1 hw2).1
      have := hg j hj
      rw [strs_get, hw2] at this
      exact hw.cell this
def txt : List (List UInt8) → List UInt8
  | [] => []
  | x :: r => x ++ Lib.joinTail [44] r
theorem txt_join (ws : List (List UInt8)) : Lib.join ws [44] = txt ws := by
  cases ws with
  | nil => rfl
  | cons x r => exact Lib.join_cons x r [44]
theorem txt_one (w : List UInt8) : txt [w] = w := by simp [txt, Lib.joinTail]
theorem txt_snoc (ws : List (List UInt8)) (w : List UInt8) (h : 1 ≤ ws.length) : txt (ws ++ [w]) = txt ws ++ [44] ++ w := by
  cases ws with
  | nil => simp at h
  | cons x r => simp [txt, Lib.joinTail]
theorem txt_len {ws : List (List UInt8)} {n : Nat} (h : ∀ w ∈ ws, w.length ≤ n) : (txt ws).length ≤ ws.length * (n + 1) := by
  cases ws with
  | nil => exact Nat.zero_le _
  | cons x r =>
    have h1 := h x (List.mem_cons_self ..)
    have h2 : ∀ (l : List (List UInt8)), (∀ w ∈ l, w.length ≤ n) → (Lib.joinTail [44] l).length ≤ l.length * (n + 1) := by
      intro l hl
      induction l with
      | nil => simp [Lib.joinTail]
      | cons a l ih =>
        have h3 := hl a (List.mem_cons_self ..)
        have h4 := ih fun w hw => hl w (List.mem_cons_of_mem _ hw)
        have e : Lib.joinTail [44] (a :: l) = [44] ++ a ++ Lib.joinTail [44] l := by simp [Lib.joinTail]
        rw [e, List.length_append, List.length_append, List.length_singleton, List.length_cons, Nat.succ_mul]
        omega
    have h3 := h2 r fun w hw => h w (List.mem_cons_of_mem _ hw)
    unfold txt
    rw [List.length_append, List.length_cons, Nat.succ_mul]
    omega
def textT (ws : List (List UInt8)) : List UInt8 := if isMor ws then txt ws else []
theorem impl_MorphismText (v : Value) (ws : List (List UInt8)) (M : Mem) (R : Value → Mem → Prop) (hv : Rd M v (strs ws)) (hf : Fine ws) (hn : ws.length ≤ 1099511627776) (h : R (tup2 (str (textT ws)) (morC ws)) M) : Does Tryz.prog 17 [.agg #[v]] M R := by
  refine does_fn tab_ok Tryz.func17 rfl (by kernel_rfl) (by kernel_rfl) Tryz.ntmps17 Tryz.results17 rfl ?_
  obtain ⟨a, c, rfl, ha⟩ := hv.opened
  rw [strs_length] at hv ⊢
  simp (disch := omega)
  intro b1 hb1
  have hs1 : Sub M (M.put b1 (.cells true [.slice a ws.length c] 1)) := (Sub.refl M).put hb1 _
  have hv1 := hv.put hb1 (.cells true [.slice a ws.length c] 1)
  have k1 : (M.put b1 (.cells true [.slice a ws.length c] 1)) b1 = some (.cells true [.slice a ws.length c] 1) := put_same _ _ _
  simp (disch := omega)
  generalize M.put b1 (.cells true [.slice a ws.length c] 1) = N at *
  refine morphismCode0_does _ ws _ _ hv1 hf hn ?_
  unfold textT morC at h
  unfold morC
  cases hm : isMor ws
  · rw [hm] at h
    simp (disch := omega)
    exact ret_sub hs1 h
  · rw [hm, if_pos rfl, if_pos rfl, ← txt_join] at h
    have h15 := mor_len hm
    have hl := txt_len (n := 12) fun w hw => (mor_ok hm hw).1
    have hl5 : ws.length * 13 ≤ 65 := Nat.mul_le_mul_right 13 h15.2
    simp (disch := omega) [get_of k1]
    refine join_does _ ws [44] _ _ hv1 h15.1 (by omega) (by rw [txt_join]; omega) ?_
    simp (disch := omega)
    exact ret_sub hs1 h
theorem l06Text_does (v : Value) (ws : List (List UInt8)) (M : Mem) (R : Value → Mem → Prop) (hv : Rd M v (strs ws)) (hm : isMor ws = true) (h : R (str (txt ws)) M) : Does Tryz.prog 74 [.agg #[v]] M R := by
  refine does_fn tab_ok Tryz.func74 rfl (by kernel_rfl) (by kernel_rfl) Tryz.ntmps74 Tryz.results74 rfl ?_
  obtain ⟨a, c, rfl, ha⟩ := hv.opened
  have h15 := mor_len hm
  rw [strs_length] at ha hv ⊢
  simp (disch := omega)
  intro b1 hb1
  have hs1 : Sub M (M.put b1 (.cells true [.slice a ws.length c] 1)) := (Sub.refl M).put hb1 _
  have k1 : (M.put b1 (.cells true [.slice a ws.length c] 1)) b1 = some (.cells true [.slice a ws.length c] 1) := put_same _ _ _
  rcases ha with h0 | ⟨b, o, rfl, ha⟩
  · omega
  simp (disch := omega)
  generalize M.put b1 (.cells true [.slice (some ⟨b, o, none⟩) ws.length c] 1) = N at *
  refine loop_to tab_ok [3, 4, 5, 6, 7, 8, 9, 10, 11, 12, 13, 14, 15, 16, 17, 18, 19, 20, 21, 22] (fun i : Nat => [(4, .int .i64 i), (3, str (txt (ws.take i)))]) (fun i M' => M' = N ∧ i ≤ ws.length) (fun i => ws.length - i) 0 (by kernel_rfl) (by simp (disch := omega) [txt]) ⟨rfl, by omega⟩ ?_
  rintro i M' g ⟨rfl, hi⟩
  have hlt0 := txt_len (ws := ws.take i) (n := 12) fun w hw => (mor_ok hm (List.mem_of_mem_take hw)).1
  have hti : (ws.take i).length = i := by rw [List.length_take]; omega
  rw [hti] at hlt0
  have hl5 : i * 13 ≤ 65 := Nat.mul_le_mul (show i ≤ 5 by omega) (Nat.le_refl 13)
  by_cases hlt : i < ws.length
  · have hg0 := ha i hlt
    rw [strs_get, List.getElem?_eq_getElem hlt] at hg0
    have hg := get_keep hg0 hs1
    have hwo := mor_ok hm (List.getElem_mem hlt)
    by_cases h0 : i = 0
    · subst h0
      have e : txt (ws.take (0 + 1)) = ws[0] := by rw [take_one hlt, txt_one]
      have e0 : txt [] = [] := rfl
      rw [Nat.add_zero] at hg
      simp (disch := omega) [get_of k1, hg, e0]
      exact Rnd.mk' (0 + 1) (by omega) (by (repeat (first | exact km | refine kp rfl ?_ | refine km' rfl ?_))) (by simp (disch := omega) [e]) ⟨rfl, by omega⟩
    · have hpos : (0 : Int) < i := by omega
      have e : txt (ws.take (i + 1)) = txt (ws.take i) ++ [44] ++ ws[i] := by rw [take_snoc ws hlt, txt_snoc _ _ (by omega)]
      simp (disch := omega) [get_of k1, hg, hpos]
      exact Rnd.mk' (i + 1) (by omega) (by (repeat (first | exact km | refine kp rfl ?_ | refine km' rfl ?_))) (by simp (disch := omega) [e]) ⟨rfl, by omega⟩
  · have hi' : i = ws.length := by omega
    subst hi'
    rw [List.take_length]
    simp (disch := omega) [get_of k1]
    exact ret_sub hs1 h
theorem spec_MorphismText (v : Value) (ws : List (List UInt8)) (M : Mem) (R : Value → Mem → Prop) (hv : Rd M v (strs ws)) (hf : Fine ws) (hn : ws.length ≤ 1099511627776) (h : R (tup2 (str (textT ws)) (morC ws)) M) : Does Tryz.prog 18 [.agg #[v]] M R := by
  refine does_fn tab_ok Tryz.func18 rfl (by kernel_rfl) (by kernel_rfl) Tryz.ntmps18 Tryz.results18 rfl ?_
  obtain ⟨a, c, rfl, ha⟩ := hv.opened
  rw [strs_length] at hv ⊢
  simp (disch := omega)
  intro b1 hb1
  have hs1 : Sub M (M.put b1 (.cells true [.slice a ws.length c] 1)) := (Sub.refl M).put hb1 _
  have hv1 := hv.put hb1 (.cells true [.slice a ws.length c] 1)
  simp (disch := omega)
  refine l06Is_does _ ws _ _ hv1 hf hn ?_
  unfold textT morC at h
  cases hm : isMor ws
  · rw [hm] at h
    simp (disch := omega)
    exact ret_sub hs1 h
  · rw [hm, if_pos rfl, if_pos rfl] at h
    simp (disch := omega)
    refine l06Text_does _ ws _ _ hv1 hm ?_
    simp (disch := omega)
    exact ret_sub hs1 h
end Go.Proofs.YticejlplbibegaaGreatDoor

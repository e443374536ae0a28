/- Contracts: texts split at a byte, by the kit's contracts of strings.Count and strings.Index at one byte; morphisms out of texts. -/
import Derived.Test.YticejlplbibegaaGreatDoorC46
import Derived.Test.YticejlplbibegaaGreatDoorE11
import Derived.Lib.Bytealg
namespace Go.Proofs.YticejlplbibegaaGreatDoor
open Go Go.RowKit
set_option linter.unusedSimpArgs false
set_option linter.unusedVariables false

/-- The parts of a text between bytes. -/
def spR (c : UInt8) : List UInt8 → List (List UInt8)
  | [] => [[]]
  | b :: l => if b = c then [] :: spR c l else (b :: (spR c l).headD []) :: (spR c l).tail
theorem spR_ne (c : UInt8) : ∀ l, spR c l ≠ []
  | [] => by simp [spR]
  | b :: l => by unfold spR; split <;> simp
theorem spR_len (c : UInt8) : ∀ l : List UInt8, (spR c l).length = l.count c + 1
  | [] => rfl
  | b :: l => by
    have ih := spR_len c l
    unfold spR
    rw [List.count_cons]
    split
    · rename_i h; subst h; rw [List.length_cons, ih]; simp
    · rename_i h
      rw [List.length_cons, List.length_tail, ih]
      have : (b == c) = false := beq_eq_false_iff_ne.2 h
      rw [this]; simp
/-- Where the first byte c stands, the first part ends. -/
theorem spR_index (c : UInt8) : ∀ l : List UInt8, (Lib.indexByte l c = -1 ∧ l.count c = 0 ∧ spR c l = [l]) ∨
    (∃ m : Nat, Lib.indexByte l c = m ∧ m < l.length ∧ spR c l = l.take m :: spR c (l.drop (m + 1)) ∧ l.count c = (l.drop (m + 1)).count c + 1)
  | [] => .inl ⟨rfl, rfl, rfl⟩
  | b :: l => by
    by_cases h : b = c
    · subst h
      refine .inr ⟨0, by simp [Lib.indexByte], by simp, by simp [spR], by simp⟩
    · have hb : (b == c) = false := beq_eq_false_iff_ne.2 h
      have e1 : spR c (b :: l) = (b :: (spR c l).headD []) :: (spR c l).tail := by conv => lhs; unfold spR; rw [if_neg h]
      have e2 : Lib.indexByte (b :: l) c = if Lib.indexByte l c == -1 then -1 else Lib.indexByte l c + 1 := by
        conv => lhs; unfold Lib.indexByte; rw [hb, if_neg (by decide)]
      have e3 : (b :: l).count c = l.count c := by rw [List.count_cons, hb]; simp
      rcases spR_index c l with ⟨h1, h2, h3⟩ | ⟨m, h1, h2, h3, h4⟩
      · refine .inl ⟨by rw [e2, h1]; rfl, by rw [e3, h2], by rw [e1, h3]; rfl⟩
      · refine .inr ⟨m + 1, ?_, by rw [List.length_cons]; omega, ?_, ?_⟩
        · rw [e2, h1, if_neg (by rw [beq_iff_eq]; omega)]; omega
        · rw [e1, h3]; rfl
        · rw [e3, h4, List.drop_succ_cons]
/-- The reference's parts are the same. -/
theorem spR_splN (c : UInt8) (l : List UInt8) : ∀ i, i ≤ l.length → spR c l = (splN l c i).1 ++ ((((l.take i).drop (splN l c i).2) ++ (spR c (l.drop i)).headD []) :: (spR c (l.drop i)).tail)
  | 0, _ => by
    show spR c l = [] ++ _
    have := spR_ne c l
    cases h : spR c l with
    | nil => exact absurd h this
    | cons a r => simp [splN, h]
  | i + 1, hi => by
    have ih := spR_splN c l i (by omega)
    have hat := splN_at l c i
    have hdr : l.drop i = l[i] :: l.drop (i + 1) := List.drop_eq_getElem_cons (by omega)
    have hgd : l.getD i 0 = l[i] := by rw [List.getD_eq_getElem?_getD, List.getElem?_eq_getElem (by omega)]; rfl
    have htk : l.take (i + 1) = l.take i ++ [l[i]] := take_snoc l (by omega)
    have e : splN l c (i + 1) = if l.getD i 0 = c then ((splN l c i).1 ++ [(l.take i).drop (splN l c i).2], i + 1) else splN l c i := rfl
    rw [e, hgd]
    have hs : spR c (l.drop i) = if l[i] = c then [] :: spR c (l.drop (i + 1)) else (l[i] :: (spR c (l.drop (i + 1))).headD []) :: (spR c (l.drop (i + 1))).tail := by
      conv => lhs; rw [hdr]; unfold spR
    rw [hs] at ih
    by_cases hc : l[i] = c
    · rw [if_pos hc] at ih ⊢
      have hz : (l.take (i + 1)).drop (i + 1) = [] := List.drop_of_length_le (by rw [List.length_take]; omega)
      simp only [List.headD_cons, List.tail_cons, List.append_nil] at ih
      simp only [hz, List.nil_append]
      rw [ih, List.append_assoc]
      congr 1
      have hne := spR_ne c (l.drop (i + 1))
      cases hh : spR c (l.drop (i + 1)) with
      | nil => exact absurd hh hne
      | cons a r => rfl
    · rw [if_neg hc] at ih ⊢
      rw [ih, htk, List.drop_append_of_le_length (by rw [List.length_take]; omega)]
      simp
theorem splL_spR (l : List UInt8) (c : UInt8) : splL l c = spR c l := by
  have h := spR_splN c l l.length (Nat.le_refl _)
  rw [List.drop_length, List.take_length] at h
  rw [h]
  unfold splL
  simp [spR]
theorem spR_fine (c : UInt8) (l : List UInt8) : ∀ w ∈ spR c l, w.length ≤ l.length := by
  rw [← splL_spR]; exact (splL_len l c).2.2
theorem countOne_does (l : List UInt8) (c : UInt8) (M : Mem) (R : Value → Mem → Prop) (h : R (.int .i64 (l.count c : Nat)) M) : Does Tryz.prog 155 [str l, str [c]] M R := by
  refine does_below (.int .i64 (l.count c : Nat)) ⟨_, Tryz.func155, by kernel_rfl, by kernel_rfl⟩ (fun w hw => ?_) h
  exact (Tryz.strings_Count_one ⟨⟨l⟩⟩ c w).mono fun e w' ⟨h1, h2⟩ => ⟨h1, by rw [h2]; exact Below.refl _ _⟩
theorem indexOne_does (l : List UInt8) (c : UInt8) (M : Mem) (R : Value → Mem → Prop) (h : R (.int .i64 (Lib.indexByte l c)) M) : Does Tryz.prog 156 [str l, str [c]] M R := by
  refine does_below (.int .i64 (Lib.indexByte l c)) ⟨_, Tryz.func156, by kernel_rfl, by kernel_rfl⟩ (fun w hw => ?_) h
  exact (Tryz.strings_Index_one ⟨⟨l⟩⟩ c w).mono fun e w' ⟨h1, h2⟩ => ⟨h1, by rw [h2]; exact Below.refl _ _⟩
theorem rep_strs (n : Nat) : List.replicate n (str []) = strs (List.replicate n []) := by simp [strs]
theorem blank_set (P : List (List UInt8)) (x : List UInt8) (d : Nat) : (P ++ List.replicate (d + 1) []).set P.length x = (P ++ [x]) ++ List.replicate d [] := by
  rw [List.set_append_right _ _ (Nat.le_refl _), Nat.sub_self, List.replicate_succ, List.set_cons_zero, List.append_assoc]; rfl
theorem splitS_does (l : List UInt8) (c : UInt8) (M : Mem) (R : Value → Mem → Prop) (hl : l.length ≤ 1000000000) (h : ∀ v M', Own M v (strs (spR c l)) M' → R v M') : Does Tryz.prog 76 [str l, str [c]] M R := by
  refine does_fn tab_ok Tryz.func76 rfl (by kernel_rfl) (by kernel_rfl) Tryz.ntmps76 Tryz.results76 rfl ?_
  simp (disch := omega)
  refine does_fn tab_ok Tryz.func131 rfl (by kernel_rfl) (by kernel_rfl) Tryz.ntmps131 Tryz.results131 rfl ?_
  have hcl : l.count c ≤ l.length := List.count_le_length
  have hmin : ¬ ((l.length : Int) + 1 < (l.count c : Int) + 1) := by omega
  have hsl := spR_len c l
  simp (disch := omega)
  refine countOne_does l c _ _ ?_
  simp (disch := omega) [hmin]
  intro b hb
  rw [rep_strs]
  generalize hn : l.count c = n at *
  simp (disch := omega)
  refine loop_to tab_ok [0, 10, 11, 34, 35, 36, 37, 38, 39, 40, 41, 42, 43, 44, 45, 46, 47, 48, 49, 50, 51, 52, 53, 54, 55, 56, 57] (fun x : List (List UInt8) × List UInt8 => [(10, .int .i64 (x.1.length : Nat)), (0, str x.2)]) (fun x M' => M.put b (.cells true (strs (x.1 ++ List.replicate (n + 1 - x.1.length) [])) (n + 1)) = M' ∧ x.1 ++ spR c x.2 = spR c l ∧ x.1.length + x.2.count c = n ∧ x.2.length ≤ l.length) (fun x => n - x.1.length) ([], l) (by kernel_rfl) (by simp (disch := omega)) ⟨rfl, rfl, by simp only [List.length_nil]; omega, Nat.le_refl _⟩ ?_
  rintro ⟨P, r⟩ M' g ⟨rfl, hP, hc, hrl⟩
  simp only at hP hc hrl
  have kM : ∀ X, (M.put b (.cells true X (n + 1))) b = some (.cells true X (n + 1)) := fun X => put_same _ _ _
  by_cases hlt : P.length < n
  · have hix := spR_index c r
    rcases hix with ⟨_, h2, _⟩ | ⟨m, h1, h2, h3, h4⟩
    · omega
    · obtain ⟨d, hd⟩ : ∃ d, n + 1 - P.length = d + 1 := ⟨n - P.length, by omega⟩
      have hbs := blank_set P (r.take m) d
      have hln : (strs (P ++ List.replicate (d + 1) [])).length = P.length + (d + 1) := by rw [strs_length, List.length_append, List.length_replicate]
      have k1 := kM (strs (P ++ List.replicate (d + 1) []))
      rw [hd]
      generalize hPl : P.length = p at *
      simp (disch := omega)
      refine indexOne_does r c _ _ ?_
      rw [h1]
      have hm0 : ¬ (m : Int) < 0 := by omega
      simp (disch := omega) [hm0, k1, set_is, strs_set, hbs]
      refine Rnd.mk' (P ++ [r.take m], r.drop (m + 1)) (by simp only [List.length_append, List.length_singleton]; omega) (by (repeat (first | exact km | refine kp rfl ?_ | refine km' rfl ?_))) (by simp (disch := omega) [hPl]) ⟨?_, ?_, ?_, ?_⟩
      · simp only [put_put, List.length_append, List.length_singleton, hPl]
        rw [show n + 1 - (p + 1) = d by omega]
        simp
      · simp only [List.append_assoc, List.singleton_append]
        rw [← h3]; exact hP
      · simp only [List.length_append, List.length_singleton, hPl]; omega
      · simp only [List.length_drop]; omega
  · have hPn : P.length = n := by omega
    have hix := spR_index c r
    rcases hix with ⟨_, h2, h3⟩ | ⟨m, _, h2, h3, h4⟩
    · have hbs := blank_set P r 0
      rw [h3] at hP
      have k1 := kM (strs (P ++ List.replicate (0 + 1) []))
      have hln : (strs (P ++ List.replicate (0 + 1) [])).length = P.length + 1 := by rw [strs_length, List.length_append, List.length_replicate]
      rw [List.replicate_zero, List.append_nil, hP] at hbs
      rw [show n + 1 - P.length = 0 + 1 by omega]
      generalize hPl : P.length = p at *
      subst hPn
      simp (disch := omega) [k1, set_is, strs_set, hbs]
      refine ret_of ?_
      simp (disch := omega)
      have ho : Own M (.slice (some ⟨b, 0, none⟩) (p + 1) (p + 1)) (strs (P ++ [r])) (M.put b (.cells true (strs (P ++ [r])) (p + 1))) := Own.new hb (by rw [strs_length, List.length_append, List.length_singleton, hPl]) (Nat.le_refl _)
      refine ret_of (h _ _ ?_)
      rw [← hP]
      try rw [put_put]
      exact ho
    · omega
end Go.Proofs.YticejlplbibegaaGreatDoor

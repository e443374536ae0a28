/- Plain laws of morphisms: texts read back, iterates, composed images, words from images. -/
import Derived.Test.YticejlplbibegaaGreatDoorM6
import Derived.Test.YticejlplbibegaaGreatDoorC18
import Derived.Test.YticejlplbibegaaGreatDoorC25
import Derived.Test.YticejlplbibegaaGreatDoorC86
import Derived.Test.YticejlplbibegaaGreatDoorC28
namespace Go.Proofs.YticejlplbibegaaGreatDoor
open Go

theorem spR_pure {c : UInt8} : ∀ {w : List UInt8}, (∀ u ∈ w, u ≠ c) → spR c w = [w]
  | [], _ => rfl
  | b :: w, h => by
    unfold spR
    rw [if_neg (h b (by simp)), spR_pure fun u hu => h u (List.mem_cons_of_mem _ hu)]
    rfl
theorem spR_cut {c : UInt8} {r : List UInt8} : ∀ {w : List UInt8}, (∀ u ∈ w, u ≠ c) → spR c (w ++ c :: r) = w :: spR c r
  | [], _ => by rw [List.nil_append]; conv => lhs; unfold spR
                rw [if_pos rfl]
  | b :: w, h => by
    rw [List.cons_append]
    conv => lhs; unfold spR
    rw [if_neg (h b (by simp)), spR_cut fun u hu => h u (List.mem_cons_of_mem _ hu)]
    rfl
theorem spR_txt : ∀ {ws : List (List UInt8)}, ws ≠ [] → (∀ w ∈ ws, ∀ u ∈ w, u ≠ 44) → spR 44 (txt ws) = ws
  | [], h, _ => absurd rfl h
  | [w], _, h => by rw [txt_one, spR_pure (h w (by simp))]
  | w :: x :: r, _, h => by
    have e : txt (w :: x :: r) = w ++ 44 :: txt (x :: r) := by simp [txt, Lib.joinTail]
    rw [e, spR_cut (h w (by simp)), spR_txt (by simp) fun y hy => h y (List.mem_cons_of_mem _ hy)]
theorem isL_44 {u : UInt8} (h : isL u = true) : u ≠ 44 := by
  have := isL_range h
  rintro rfl
  revert this
  decide
/-- The text of a morphism is read back. -/
theorem text_back {ws : List (List UInt8)} (hm : isMor ws = true) : pmL (txt ws) = ws ∧ pmC (txt ws) = 0 := by
  have e : spR 44 (txt ws) = ws := spR_txt (by rintro rfl; have := (mor_len hm).1; simp at this) fun w hw u hu => isL_44 (List.all_eq_true.1 (isWord_all (mor_ok hm hw).2.1) u hu)
  unfold pmL pmC
  rw [e, if_pos hm, if_pos hm]
  exact ⟨rfl, rfl⟩

theorem iterW_last (ws : List (List UInt8)) : ∀ (k : Nat) (w : List UInt8), iterW ws (k + 1) w = (iterW ws k w).bind fun x => if 60 < (imgOf ws x).length then none else some (imgOf ws x)
  | 0, w => by
    rw [iterW_succ, iterW_zero]
    rfl
  | k + 1, w => by
    have e1 := iterW_succ ws (k + 1) w
    have e2 := iterW_succ ws k w
    rw [e1, e2]
    split
    · rfl
    · exact iterW_last ws k _
theorem iterW_word {ws : List (List UInt8)} (hm : isMor ws = true) : ∀ (k : Nat) (w x : List UInt8), Lt ws w → w.length ≤ 60 → iterW ws k w = some x → Lt ws x ∧ x.length ≤ 60
  | 0, w, x, h1, h2, h => by
    rw [iterW_zero] at h
    injection h with h
    subst h
    exact ⟨h1, h2⟩
  | k + 1, w, x, h1, h2, h => by
    rw [iterW_succ] at h
    split at h
    · cases h
    · exact iterW_word hm k _ x (img_lt hm h1) (by omega) h
theorem isL_of {u : UInt8} (h : 97 ≤ u.toNat ∧ u.toNat < 102) : isL u = true := by
  unfold isL
  rw [decide_eq_true h.1, decide_eq_true h.2]; rfl
theorem lt_word {ws : List (List UInt8)} (hm : isMor ws = true) {w : List UInt8} (h : Lt ws w) (hl : w.length ≤ 60) : isWord w = true ∧ fewB w ws.length = true := by
  have h5 := mor_len hm
  constructor
  · unfold isWord
    rw [decide_eq_true hl, Bool.true_and, List.all_eq_true]
    intro u hu
    have := h u hu
    exact isL_of ⟨this.1, by omega⟩
  · unfold fewB
    rw [List.all_eq_true]
    intro u hu
    exact decide_eq_true (h u hu).2
theorem codeM_z0 {ws : List (List UInt8)} (hm : isMor ws = true) {w : List UInt8} (h : Lt ws w) (hl : w.length ≤ 60) : codeM ws w = 0 := by
  obtain ⟨h1, h2⟩ := lt_word hm h hl
  unfold codeM
  rw [hm, h1, h2]; rfl
theorem iter_img {ws : List (List UInt8)} (hm : isMor ws = true) {w : List UInt8} (h : Lt ws w) (hl : w.length ≤ 60) (hi : (imgOf ws w).length ≤ 60) : iterC ws w 1 = 0 ∧ iterT ws w 1 = imgOf ws w := by
  have hc : codeI ws w 1 = 0 := by rw [codeI_one]; exact codeM_z0 hm h hl
  unfold iterC iterT
  rw [if_pos hc, if_pos hc, show (1 : Int).toNat = 0 + 1 from rfl, iterW_succ, if_neg (by omega), iterW_zero]
  exact ⟨rfl, rfl⟩
theorem codeI_lt {ws : List (List UInt8)} {w : List UInt8} {k : Int} (h : codeI ws w k = 0) : isMor ws = true ∧ Lt ws w ∧ w.length ≤ 60 := by
  obtain ⟨h1, h2, h3, _, _⟩ := codeI_zero h
  exact ⟨h1, lt_of (isWord_all h2) h3, isWord_len h2⟩
/-- An iterate is the image of the one before. -/
theorem iter_back {ws : List (List UInt8)} {w : List UInt8} {k : Int} (h : iterC ws w k = 0) (hk : 0 < k) : iterC ws w (k - 1) = 0 ∧ iterC ws (iterT ws w (k - 1)) 1 = 0 ∧ iterT ws (iterT ws w (k - 1)) 1 = iterT ws w k := by
  have hc : codeI ws w k = 0 := by
    unfold iterC at h
    split at h
    · assumption
    · exact h
  obtain ⟨hm, hlt, hl⟩ := codeI_lt hc
  obtain ⟨_, h2, h3, h4, h5⟩ := codeI_zero hc
  obtain ⟨n, rfl⟩ : ∃ n : Nat, k = (n + 1 : Nat) := ⟨(k - 1).toNat, by omega⟩
  have hc1 : codeI ws w (((n + 1 : Nat) : Int) - 1) = 0 := by
    unfold codeI
    rw [hm, h2, h3, decide_eq_true (by omega)]; rfl
  have e1 : (((n + 1 : Nat) : Int) - 1).toNat = n := by omega
  have e2 : ((n + 1 : Nat) : Int).toNat = n + 1 := by omega
  unfold iterC at h
  rw [if_pos hc, e2, iterW_last] at h
  cases hx : iterW ws n w with
  | none => rw [hx] at h; cases h
  | some x =>
    rw [hx] at h
    have hw := iterW_word hm n w x hlt hl hx
    have hT : iterT ws w (((n + 1 : Nat) : Int) - 1) = x := by
      unfold iterT
      rw [if_pos hc1, e1, hx]
    have hi : ¬ 60 < (imgOf ws x).length := by
      intro hi
      simp only [Option.bind_some, if_pos hi] at h
      cases h
    have hT2 : iterT ws w ((n + 1 : Nat) : Int) = imgOf ws x := by
      unfold iterT
      rw [if_pos hc, e2, iterW_last, hx]
      simp only [Option.bind_some, if_neg hi]
    have hii := iter_img hm hw.1 hw.2 (by omega)
    rw [hT, hT2]
    refine ⟨?_, hii.1, hii.2⟩
    unfold iterC
    rw [if_pos hc1, e1, hx]
theorem iter_k {ws : List (List UInt8)} {w : List UInt8} {k : Int} (h : iterC ws w k = 0) : 0 ≤ k ∧ k ≤ 100 := by
  have hc : codeI ws w k = 0 := by
    unfold iterC at h
    split at h
    · assumption
    · exact h
  obtain ⟨_, _, _, h4, h5⟩ := codeI_zero hc
  exact ⟨h4, h5⟩
theorem iterT_no {ws : List (List UInt8)} {w : List UInt8} {k : Int} (h : iterC ws w k ≠ 0) : iterT ws w k = [] := by
  unfold iterC at h
  unfold iterT
  split at h
  · rename_i h0
    rw [if_pos h0]
    split
    · rename_i x hx; rw [hx] at h; exact absurd rfl h
    · rfl
  · rename_i h0
    rw [if_neg h0]
theorem iterT_len (ws : List (List UInt8)) (w : List UInt8) (k : Int) : (iterT ws w k).length ≤ 60 := by
  by_cases h : iterC ws w k = 0
  · have hc : codeI ws w k = 0 := by
      unfold iterC at h
      split at h
      · assumption
      · exact h
    obtain ⟨hm, hlt, hl⟩ := codeI_lt hc
    unfold iterT
    rw [if_pos hc]
    cases hx : iterW ws k.toNat w with
    | none => exact Nat.zero_le _
    | some x => exact (iterW_word hm _ w x hlt hl hx).2
  · rw [iterT_no h]; exact Nat.zero_le _
/-- The images of a composed morphism. -/
theorem comp_img {ws us : List (List UInt8)} (h : compC ws us = 0) {u : List UInt8} (hu : u ∈ us) : iterC ws u 1 = 0 ∧ iterT ws u 1 = imgOf ws u := by
  unfold compC at h
  split at h
  · rename_i h1
    rw [Bool.and_eq_true] at h1
    split at h
    · rename_i h2
      split at h
      · rename_i h3
        have ho := mor_ok h1.2 hu
        rw [← h2] at ho
        unfold shortTo at h3
        rw [List.take_length, List.all_eq_true] at h3
        have := h3 u hu
        rw [decide_eq_true_eq] at this
        exact iter_img h1.1 (lt_of (isWord_all ho.2.1) ho.2.2) (by omega) (by omega)
      · cases h
    · cases h
  · cases h
theorem comp_is {ws us : List (List UInt8)} (h : compC ws us = 0) : compW ws us = us.map (imgOf ws) ∧ us.length ≤ 5 := by
  refine ⟨by unfold compW; rw [if_pos h], ?_⟩
  unfold compC at h
  split at h
  · rename_i h1
    rw [Bool.and_eq_true] at h1
    exact (mor_len h1.2).2
  · cases h
theorem compW_len (ws us : List (List UInt8)) : (compW ws us).length ≤ 5 := by
  by_cases h : compC ws us = 0
  · rw [(comp_is h).1, List.length_map]; exact (comp_is h).2
  · unfold compW; rw [if_neg h]; exact Nat.zero_le _

theorem lt_nil0 (ws : List (List UInt8)) : Lt ws [] := fun u hu => by cases hu
/-- Where some word's image is left, a shortest one is known. -/
theorem ent_of {I : List UInt8} {ws : List (List UInt8)} : ∀ (v : List UInt8) (i : Nat), Lt ws v → i ≤ I.length → I.drop i = imgOf ws v → ∃ s, s ≤ v.length ∧ (entT I ws i).1 = some s
  | [], i, _, hi, hd => by
    have : i = I.length := by
      have h := congrArg List.length hd
      rw [List.length_drop] at h
      simp [imgOf] at h
      omega
    subst this
    exact ⟨0, Nat.le_refl _, by rw [ent_last]⟩
  | a :: v, i, hlt, hi, hd => by
    have hv : Lt ws v := fun u hu => hlt u (List.mem_cons_of_mem _ hu)
    have ha := (hlt a (List.mem_cons_self ..)).2
    rw [imgOf_cons] at hd
    by_cases h0 : ws.getD (a.toNat - 97) [] = []
    · rw [h0, List.nil_append] at hd
      obtain ⟨s, h1, h2⟩ := ent_of v i hv hi hd
      exact ⟨s, by rw [List.length_cons]; omega, h2⟩
    · have hp : (ws.getD (a.toNat - 97) []).isPrefixOf (I.drop i) = true := by
        rw [hd, List.isPrefixOf_iff_prefix]; exact List.prefix_append _ _
      have hl := prefix_len hp
      rw [List.length_drop] at hl
      have h1 : 1 ≤ (ws.getD (a.toNat - 97) []).length := by
        cases hh : ws.getD (a.toNat - 97) [] with
        | nil => exact absurd hh h0
        | cons x l => simp
      have hlt' : i < I.length := by omega
      obtain ⟨s, h2, h3⟩ := ent_of (I := I) v (i + (ws.getD (a.toNat - 97) []).length) hv (by omega) (by rw [← List.drop_drop, hd, List.drop_left])
      have hc := cand_ent (ws := ws) hlt' h0 hp
      rw [h3] at hc
      have hs := cell_spec I ws (tabT I ws (I.length - i - 1)) i ws.length
      rw [ent_step I ws hlt']
      cases hx : (cellT I ws (tabT I ws (I.length - i - 1)) i ws.length).1 with
      | none => have := hs.1 hx _ ha; rw [hc] at this; cases this
      | some x =>
        have := (hs.2 x hx).2.2.1 _ s ha hc
        exact ⟨x, by rw [List.length_cons]; omega, rfl⟩
theorem out_is {I : List UInt8} {ws : List (List UInt8)} (h5 : ws.length ≤ 5) : ∀ (f i x : Nat), I.length - i ≤ f → i ≤ I.length → (entT I ws i).1 = some x → (outF I ws f i).length = x ∧ Lt ws (outF I ws f i) ∧ imgOf ws (outF I ws f i) = I.drop i
  | 0, i, x, hf, hi, hx => by
    have : i = I.length := by omega
    subst this
    rw [ent_last] at hx
    injection hx with hx
    subst hx
    show ([] : List UInt8).length = 0 ∧ Lt ws [] ∧ imgOf ws [] = _
    exact ⟨rfl, lt_nil0 ws, by rw [List.drop_length]; rfl⟩
  | f + 1, i, x, hf, hi, hx => by
    by_cases hlt : i < I.length
    · obtain ⟨w1, w2, w3, ⟨s, w4, w5⟩, w6, _⟩ := ent_way hlt hx
      have h1 : 1 ≤ (ws.getD (entT I ws i).2 []).length := by
        cases hh : ws.getD (entT I ws i).2 [] with
        | nil => exact absurd hh w2
        | cons x l => simp
      obtain ⟨r1, r2, r3⟩ := out_is h5 f _ s (by omega) w6 w4
      have e : outF I ws (f + 1) i = ltr (entT I ws i).2 :: outF I ws f (i + (ws.getD (entT I ws i).2 []).length) := by
        conv => lhs; unfold outF
        rw [if_pos hlt]
      have hn : (ltr (entT I ws i).2).toNat = 97 + (entT I ws i).2 := by
        unfold ltr
        rw [UInt8.toNat_ofNat']
        omega
      rw [e]
      refine ⟨by rw [List.length_cons, r1, w5], ?_, ?_⟩
      · intro u hu
        rcases List.mem_cons.1 hu with rfl | hu
        · rw [hn]; omega
        · exact r2 u hu
      · rw [imgOf_cons, r3, hn, show 97 + (entT I ws i).2 - 97 = (entT I ws i).2 by omega]
        obtain ⟨t, ht⟩ := List.isPrefixOf_iff_prefix.1 w3
        rw [← List.drop_drop, ← ht, List.drop_left]
    · have : i = I.length := by omega
      subst this
      rw [ent_last] at hx
      injection hx with hx
      subst hx
      rw [outF_end hlt]
      exact ⟨rfl, lt_nil0 ws, by rw [List.drop_length]; rfl⟩
/-- An image leads back to a word, no longer than the word it came from. -/
theorem from_img {ws : List (List UInt8)} {w : List UInt8} (h : iterC ws w 1 = 0) : fromC ws (iterT ws w 1) = 0 ∧ (fromT ws (iterT ws w 1)).length ≤ w.length ∧ iterC ws (fromT ws (iterT ws w 1)) 1 = 0 ∧ iterT ws (fromT ws (iterT ws w 1)) 1 = iterT ws w 1 := by
  have hc : codeI ws w 1 = 0 := by
    unfold iterC at h
    split at h
    · assumption
    · exact h
  obtain ⟨hm, hlt, hl⟩ := codeI_lt hc
  have hT : iterT ws w 1 = imgOf ws w := by
    unfold iterC at h
    rw [if_pos hc, show (1 : Int).toNat = 0 + 1 from rfl, iterW_succ, iterW_zero] at h
    unfold iterT
    rw [if_pos hc, show (1 : Int).toNat = 0 + 1 from rfl, iterW_succ, iterW_zero]
    split
    · rename_i x hx
      split at hx
      · cases hx
      · exact (Option.some.inj hx).symm
    · rename_i hx; rw [hx] at h; cases h
  have hIl : (imgOf ws w).length ≤ 60 := by rw [← hT]; exact iterT_len _ _ _
  rw [hT]
  have hcm := codeM_z0 hm (img_lt hm hlt) hIl
  obtain ⟨s, h1, h2⟩ := ent_of (I := imgOf ws w) w 0 hlt (Nat.zero_le _) (by rw [List.drop_zero])
  obtain ⟨o1, o2, o3⟩ := out_is (I := imgOf ws w) (mor_len hm).2 (imgOf ws w).length 0 s (by omega) (Nat.zero_le _) h2
  have hF : fromT ws (imgOf ws w) = outF (imgOf ws w) ws (imgOf ws w).length 0 := by unfold fromT; rw [if_pos hcm, h2]
  have hC : fromC ws (imgOf ws w) = 0 := by unfold fromC; rw [if_pos hcm, h2]
  rw [hF]
  rw [List.drop_zero] at o3
  obtain ⟨i1, i2⟩ := iter_img hm o2 (by omega) (by rw [o3]; exact hIl)
  exact ⟨hC, by omega, i1, by rw [i2, o3]⟩
theorem fromT_len {ws : List (List UInt8)} {w : List UInt8} (h : iterC ws w 1 = 0) : (fromT ws (iterT ws w 1)).length ≤ 60 := by
  have := (from_img h).2.1
  have hc : codeI ws w 1 = 0 := by
    unfold iterC at h
    split at h
    · assumption
    · exact h
  have := (codeI_lt hc).2.2
  omega
end Go.Proofs.YticejlplbibegaaGreatDoor

/- Plain law: places of words, scattered words. -/
import Derived.Test.YthpcojnpiggaiaaGreatM19
import Derived.Test.YthpcojnpiggaiaaGreatC58
namespace Go.Proofs.YthpcojnpiggaiaaGreat
open Go
set_option linter.unusedVariables false

/-- The places below n at which u stands in w. -/
def plcN (w u : List UInt8) (n : Nat) : List Nat := (List.range n).filter fun i => u.isPrefixOf (w.drop i)
def plcL (w u : List UInt8) : List Nat := plcN w u (w.length + 1)
theorem plcN_succ (w u : List UInt8) (n : Nat) : plcN w u (n + 1) = plcN w u n ++ if u.isPrefixOf (w.drop n) then [n] else [] := by
  unfold plcN
  rw [List.range_succ, List.filter_append]
  congr 1
  by_cases h : u.isPrefixOf (w.drop n) = true
  · rw [if_pos h]; simp [h]
  · rw [if_neg h]; simp [h]
theorem plcN_low {w u : List UInt8} {n : Nat} (h : w.length < n + u.length) : ∀ d, n + d ≤ w.length + 1 → plcN w u (n + d) = plcN w u n
  | 0, _ => rfl
  | d + 1, hd => by
    rw [show n + (d + 1) = n + d + 1 by omega, plcN_succ, plcN_low h d (by omega)]
    have : u.isPrefixOf (w.drop (n + d)) = false := by
      cases hp : u.isPrefixOf (w.drop (n + d)) with
      | false => rfl
      | true =>
        have := (List.isPrefixOf_iff_prefix.1 hp).length_le
        rw [List.length_drop] at this; omega
    rw [this]; simp
theorem plcL_low {w u : List UInt8} {n : Nat} (h : w.length < n + u.length) (hn : n ≤ w.length + 1) : plcL w u = plcN w u n := by
  unfold plcL
  rw [show w.length + 1 = n + (w.length + 1 - n) by omega]
  exact plcN_low h _ (by omega)
theorem plcN_len (w u : List UInt8) (n : Nat) : (plcN w u n).length ≤ n := by
  unfold plcN
  have := List.length_filter_le (fun i => u.isPrefixOf (w.drop i)) (List.range n)
  rw [List.length_range] at this
  exact this
theorem plcL_at {w u : List UInt8} {i : Nat} (h : i ∈ plcL w u) : i + u.length ≤ w.length ∧ seg w i u.length = u := by
  unfold plcL plcN at h
  rw [List.mem_filter] at h
  have hp := List.isPrefixOf_iff_prefix.1 h.2
  have hl := hp.length_le
  have hi := List.mem_range.1 h.1
  rw [List.length_drop] at hl
  refine ⟨by omega, ?_⟩
  unfold seg
  rw [List.drop_take, Nat.add_sub_cancel_left]
  exact (List.prefix_iff_eq_take.1 hp).symm
/-- All factors of a length, in order. -/
def facL (w : List UInt8) (m : Nat) : List (List UInt8) := if m ≤ w.length then srt (segsA w m (w.length - m + 1)) else []
theorem facL_strict (w : List UInt8) (m : Nat) : Strict (facL w m) := by
  unfold facL
  split
  · exact srt_strict _
  · exact List.Pairwise.nil
theorem facL_len {w : List UInt8} (h : w.length ≤ 60) (m : Nat) : (facL w m).length ≤ 61 := by
  unfold facL
  split
  · have := srt_le (segsA w m (w.length - m + 1))
    rw [segsA_length] at this
    omega
  · simp
theorem facL_has {w u : List UInt8} : u ∈ facL w u.length ↔ plcL w u ≠ [] := by
  unfold facL
  constructor
  · intro h
    split at h
    · rename_i hm
      rw [mem_srt] at h
      unfold segsA at h
      obtain ⟨i, hi, he⟩ := List.mem_map.1 h
      have hi := List.mem_range.1 hi
      have : i ∈ plcL w u := by
        unfold plcL plcN
        rw [List.mem_filter]
        refine ⟨List.mem_range.2 (by omega), List.isPrefixOf_iff_prefix.2 ?_⟩
        rw [← he]
        unfold seg
        rw [List.drop_take, Nat.add_sub_cancel_left]
        exact List.take_prefix _ _
      intro e; rw [e] at this; cases this
    · cases h
  · intro h
    obtain ⟨i, hi⟩ := List.exists_mem_of_ne_nil _ h
    obtain ⟨h1, h2⟩ := plcL_at hi
    rw [if_pos (by omega), mem_srt]
    unfold segsA
    exact List.mem_map.2 ⟨i, List.mem_range.2 (by omega), h2⟩
/-- What is left of a word that is met letter by letter. -/
def scSt (w : List UInt8) (c : UInt8) : List UInt8 := match w with
  | [] => []
  | a :: x => if a = c then x else a :: x
def scF (w u : List UInt8) : List UInt8 := u.foldl scSt w
theorem scF_snoc (w u : List UInt8) (c : UInt8) : scF w (u ++ [c]) = scSt (scF w u) c := by unfold scF; rw [List.foldl_append]; rfl
theorem scF_nil (u : List UInt8) : scF [] u = [] := by
  induction u with
  | nil => rfl
  | cons c u ih => exact ih
theorem scSt_suffix (w : List UInt8) (c : UInt8) : scSt w c <:+ w := by
  cases w with
  | nil => exact List.suffix_refl _
  | cons a x =>
    show (if a = c then x else a :: x) <:+ a :: x
    split
    · exact List.suffix_cons a x
    · exact List.suffix_refl _
theorem scF_suffix : ∀ (u w : List UInt8), scF w u <:+ w
  | [], w => List.suffix_refl _
  | c :: u, w => (scF_suffix u (scSt w c)).trans (scSt_suffix w c)
theorem scF_iff : ∀ (u w : List UInt8), scF w u = [] ↔ w.Sublist u
  | [], w => by
    show w = [] ↔ _
    constructor
    · rintro rfl; exact List.Sublist.slnil
    · intro h; exact List.sublist_nil.1 h
  | c :: u, [] => by
    rw [scF_nil]
    exact ⟨fun _ => List.nil_sublist _, fun _ => rfl⟩
  | c :: u, a :: x => by
    have e : scF (a :: x) (c :: u) = scF (if a = c then x else a :: x) u := rfl
    rw [e, scF_iff u]
    by_cases h : a = c
    · rw [if_pos h, h]; exact List.cons_sublist_cons.symm
    · rw [if_neg h]
      constructor
      · intro hs; exact hs.cons c
      · intro hs
        cases hs with
        | cons _ hs => exact hs
        | cons_cons _ hs => exact absurd rfl h
/-- At how many sets of places a word is scattered (both reversed). -/
def embR : List UInt8 → List UInt8 → Nat
  | [], _ => 1
  | _ :: _, [] => 0
  | a :: x, c :: v => embR (a :: x) v + if a = c then embR x v else 0
theorem embR_nil (v : List UInt8) : embR [] v = 1 := by cases v <;> rfl
theorem embR_pos : ∀ (v x : List UInt8), 0 < embR x v ↔ x.Sublist v
  | v, [] => by rw [embR_nil]; exact ⟨fun _ => List.nil_sublist v, fun _ => by decide⟩
  | [], a :: x => by
    show 0 < 0 ↔ _
    exact ⟨fun h => absurd h (Nat.lt_irrefl 0), fun h => by cases h⟩
  | c :: v, a :: x => by
    have e : embR (a :: x) (c :: v) = embR (a :: x) v + if a = c then embR x v else 0 := rfl
    rw [e]
    have h1 := embR_pos v (a :: x)
    have h2 := embR_pos v x
    by_cases h : a = c
    · rw [if_pos h]
      subst h
      constructor
      · intro hp
        by_cases h3 : 0 < embR x v
        · exact List.cons_sublist_cons.2 (h2.1 h3)
        · exact (h1.1 (by omega)).cons a
      · intro hs
        have := h2.2 (List.cons_sublist_cons.1 hs)
        omega
    · rw [if_neg h, Nat.add_zero, h1]
      constructor
      · intro hs; exact hs.cons c
      · intro hs
        cases hs with
        | cons _ hs => exact hs
        | cons_cons _ hs => exact absurd rfl h
theorem embR_le : ∀ (v x : List UInt8), embR x v ≤ (v.length + 1) ^ x.length
  | v, [] => by rw [embR_nil]; exact Nat.pow_pos (by omega)
  | [], a :: x => Nat.zero_le _
  | c :: v, a :: x => by
    have e : embR (a :: x) (c :: v) = embR (a :: x) v + if a = c then embR x v else 0 := rfl
    rw [e, List.length_cons, List.length_cons]
    have h1 := embR_le v (a :: x)
    have h2 := embR_le v x
    rw [List.length_cons, Nat.pow_succ] at h1
    have h3 : (v.length + 1) ^ x.length ≤ (v.length + 1 + 1) ^ x.length := Nat.pow_le_pow_left (by omega) _
    have h4 : (if a = c then embR x v else 0) ≤ (v.length + 1) ^ x.length := by split <;> omega
    rw [Nat.pow_succ]
    have h5 : (v.length + 1) ^ x.length * (v.length + 1) + (v.length + 1) ^ x.length = (v.length + 1) ^ x.length * (v.length + 1 + 1) := by rw [Nat.mul_add _ (v.length + 1) 1, Nat.mul_one]
    have h6 := Nat.mul_le_mul_right (v.length + 1 + 1) h3
    omega
theorem embR_small {v x : List UInt8} (hv : v.length ≤ 60) (hx : x.length ≤ 6) : embR x v ≤ 51520374361 := by
  refine Nat.le_trans (embR_le v x) ?_
  refine Nat.le_trans (Nat.pow_le_pow_left (show v.length + 1 ≤ 61 by omega) _) ?_
  exact Nat.le_trans (Nat.pow_le_pow_right (by omega) hx) (by decide)
/-- How often the first k letters of w are scattered in the first i letters of u. -/
def scE (w u : List UInt8) (i k : Nat) : Nat := embR (w.take k).reverse (u.take i).reverse
theorem scE_step {w u : List UInt8} {i k : Nat} (hi : i < u.length) (hk : k < w.length) : scE w u (i + 1) (k + 1) = scE w u i (k + 1) + if w[k] = u[i] then scE w u i k else 0 := by
  unfold scE
  rw [take_snoc u hi, take_snoc w hk, List.reverse_append, List.reverse_append]
  rfl
theorem scE_zero (w u : List UInt8) (i : Nat) : scE w u i 0 = 1 := by unfold scE; rw [List.take_zero]; exact embR_nil _
theorem scE_start {w u : List UInt8} {k : Nat} (hk : k < w.length) : scE w u 0 (k + 1) = 0 := by
  unfold scE
  rw [take_snoc w hk, List.reverse_append]; rfl
theorem scE_small {w u : List UInt8} (hw : w.length ≤ 6) (hu : u.length ≤ 60) (i k : Nat) : scE w u i k ≤ 51520374361 :=
  embR_small (by rw [List.length_reverse, List.length_take]; omega) (by rw [List.length_reverse, List.length_take]; omega)
/-- The cells while the i-th letter is read: those above k are done. -/
def scV (w u : List UInt8) (i k : Nat) : List Int := (List.range (w.length + 1)).map fun j => if k < j then (scE w u (i + 1) j : Int) else scE w u i j
theorem scV_len (w u : List UInt8) (i k : Nat) : (scV w u i k).length = w.length + 1 := by simp [scV]
theorem scV_get (w u : List UInt8) (i k : Nat) {j : Nat} (h : j ≤ w.length) : (scV w u i k)[j]? = some (if k < j then (scE w u (i + 1) j : Int) else scE w u i j) := by
  unfold scV
  rw [List.getElem?_map, List.getElem?_range (by omega)]; rfl
theorem scV_next (w u : List UInt8) (i : Nat) : scV w u i 0 = scV w u (i + 1) w.length := by
  apply List.ext_getElem?
  intro j
  by_cases h : j ≤ w.length
  · rw [scV_get _ _ _ _ h, scV_get _ _ _ _ h, if_neg (show ¬ w.length < j by omega)]
    by_cases h0 : j = 0
    · subst h0; rw [if_neg (by omega), scE_zero, scE_zero]
    · rw [if_pos (by omega)]
  · rw [List.getElem?_eq_none (by rw [scV_len]; omega), List.getElem?_eq_none (by rw [scV_len]; omega)]
theorem scV_first (w u : List UInt8) : (List.replicate (w.length + 1) (0 : Int)).set 0 1 = scV w u 0 w.length := by
  apply List.ext_getElem?
  intro j
  by_cases h : j ≤ w.length
  · rw [scV_get _ _ _ _ h, if_neg (by omega), List.getElem?_set]
    by_cases h0 : j = 0
    · subst h0; rw [if_pos rfl, if_pos (by simp), scE_zero]; rfl
    · rw [if_neg (Ne.symm h0), List.getElem?_replicate, if_pos (by omega)]
      obtain ⟨k, rfl⟩ : ∃ k, j = k + 1 := ⟨j - 1, by omega⟩
      rw [scE_start (by omega)]; rfl
  · rw [List.getElem?_eq_none (by simp; omega), List.getElem?_eq_none (by rw [scV_len]; omega)]
theorem scV_yes {w u : List UInt8} {i k : Nat} (hi : i < u.length) (hk : k < w.length) (he : w[k] = u[i]) : (scV w u i (k + 1)).set (k + 1) ((scE w u i (k + 1) : Int) + scE w u i k) = scV w u i k := by
  apply List.ext_getElem?
  intro j
  by_cases h : j ≤ w.length
  · rw [List.getElem?_set, scV_len, scV_get _ _ _ _ h, scV_get _ _ _ _ h]
    have hs := scE_step hi hk
    rw [if_pos he] at hs
    by_cases h1 : k + 1 = j
    · subst h1
      rw [if_pos rfl, if_pos (by omega), if_pos (by omega), hs]; rfl
    · rw [if_neg h1]
      by_cases h2 : k + 1 < j
      · rw [if_pos h2, if_pos (by omega)]
      · rw [if_neg h2, if_neg (by omega)]
  · rw [List.getElem?_eq_none (by rw [List.length_set, scV_len]; omega), List.getElem?_eq_none (by rw [scV_len]; omega)]
theorem scV_no {w u : List UInt8} {i k : Nat} (hi : i < u.length) (hk : k < w.length) (he : ¬ w[k] = u[i]) : scV w u i (k + 1) = scV w u i k := by
  apply List.ext_getElem?
  intro j
  by_cases h : j ≤ w.length
  · rw [scV_get _ _ _ _ h, scV_get _ _ _ _ h]
    have hs := scE_step hi hk
    rw [if_neg he, Nat.add_zero] at hs
    by_cases h1 : k + 1 = j
    · subst h1
      rw [if_neg (by omega), if_pos (by omega), hs]
      rfl
    · by_cases h2 : k + 1 < j
      · rw [if_pos h2, if_pos (by omega)]
      · rw [if_neg h2, if_neg (by omega)]
  · rw [List.getElem?_eq_none (by rw [scV_len]; omega), List.getElem?_eq_none (by rw [scV_len]; omega)]
def scN (w u : List UInt8) : Nat := scE w u u.length w.length
theorem scN_pos {w u : List UInt8} : 0 < scN w u ↔ scF w u = [] := by
  unfold scN scE
  rw [List.take_length, List.take_length, embR_pos, scF_iff, List.reverse_sublist]
theorem plc_sc {w u : List UInt8} (h : plcL w u ≠ []) : scF u w = [] := by
  rw [scF_iff]
  obtain ⟨i, hi⟩ := List.exists_mem_of_ne_nil _ h
  obtain ⟨h1, h2⟩ := plcL_at hi
  rw [← h2]
  unfold seg
  exact (List.drop_sublist _ _).trans (List.take_sublist _ _)
end Go.Proofs.YthpcojnpiggaiaaGreat

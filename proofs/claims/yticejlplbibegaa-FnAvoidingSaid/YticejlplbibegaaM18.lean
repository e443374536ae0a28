/- Plain law: words that avoid patterns have none; Zimin words; unavoidable patterns. -/
import Derived.Test.YticejlplbibegaaC72
namespace Go.Proofs.Yticejlplbibegaa
set_option linter.unusedVariables false

theorem avL_in (p : List UInt8) (k : Nat) : ∀ (d : Nat) (w u : List UInt8), (∀ n, n ≤ w.length → endsP (w.take n) p = false) → u ∈ avL p k d w →
    u.length = w.length + d ∧ (∀ n, n ≤ u.length → endsP (u.take n) p = false) ∧ (∀ c ∈ u, c ∈ w ∨ ∃ i, i < k ∧ c = ltr i)
  | 0, w, u, hw, h => by
    unfold avL at h
    rw [List.mem_singleton.1 h]
    exact ⟨rfl, hw, fun c hc => .inl hc⟩
  | d + 1, w, u, hw, h => by
    unfold avL at h
    obtain ⟨i, hi, h⟩ := List.mem_flatMap.1 h
    have hi := List.mem_range.1 hi
    cases he : endsP (w ++ [ltr i]) p
    · rw [he, if_neg (by decide)] at h
      obtain ⟨h1, h2, h3⟩ := avL_in p k d _ u (fun n hn => by
        rw [List.length_append, List.length_singleton] at hn
        by_cases e : n = w.length + 1
        · rw [List.take_of_length_le (by rw [List.length_append, List.length_singleton]; omega)]; exact he
        · rw [List.take_append_of_le_length (by omega)]; exact hw n (by omega)) h
      refine ⟨by rw [h1, List.length_append, List.length_singleton]; omega, h2, fun c hc => ?_⟩
      rcases h3 c hc with h4 | h4
      · rcases List.mem_append.1 h4 with h5 | h5
        · exact .inl h5
        · exact .inr ⟨i, hi, List.mem_singleton.1 h5⟩
      · exact .inr h4
    · rw [he, if_pos rfl] at h; cases h
theorem endsP_nil (p : List UInt8) : endsP [] p = false := rfl
theorem hasS_no {w p : List UInt8} (h : ∀ n, n ≤ w.length → endsP (w.take n) p = false) : hasS w p = false := by
  unfold hasS hasST
  rw [List.any_eq_false]
  intro m hm
  have := List.mem_range.1 hm
  rw [h _ (by omega)]
  simp
/-- A word of the list that avoids a pattern: its length, its letters; it has no pattern. -/
theorem avL_word {p : List UInt8} {k n : Nat} {u : List UInt8} (hk : k ≤ 5) (hn : n ≤ 60) (hp : ∀ c ∈ p, vIdx c < 3) (hp1 : p ≠ []) (h : u ∈ avL p k n []) :
    u.length = n ∧ isWord u = true ∧ hasB u p = false := by
  obtain ⟨h1, h2, h3⟩ := avL_in p k n [] u (fun m hm => by
    rw [List.take_nil]; exact endsP_nil p) h
  rw [List.length_nil, Nat.zero_add] at h1
  refine ⟨h1, ?_, by rw [← has_same hp hp1]; exact hasS_no h2⟩
  unfold isWord
  rw [Bool.and_eq_true, decide_eq_true_eq, List.all_eq_true]
  refine ⟨by omega, fun c hc => ?_⟩
  rcases h3 c hc with h4 | ⟨i, hi, rfl⟩
  · cases h4
  · exact isL_letter (by omega)
theorem hdL_mem {l : List (List UInt8)} (h : emL l = false) : hdL l ∈ l := by
  cases l with
  | nil => cases h
  | cons a l => exact List.mem_cons_self
/-- More letters behind a word leave it its patterns. -/
theorem hasB_more {w p : List UInt8} (y : List UInt8) (hp : ∀ c ∈ p, vIdx c < 3) (hp1 : p ≠ []) (h : hasB w p = true) : hasB (w ++ y) p = true := by
  rw [hasB_iff hp hp1] at h ⊢
  obtain ⟨i, V, h1, h2⟩ := h
  refine ⟨i, V, h1, h2.trans ?_⟩
  by_cases hi : i ≤ w.length
  · rw [List.drop_append_of_le_length hi]
    exact List.prefix_append _ _
  · rw [List.drop_of_length_le (by omega)]
    exact List.nil_prefix
theorem zimF_more {n : Nat} (h1 : 1 ≤ n) (h3 : n ≤ 3) : ∃ y, zimF 3 = zimF n ++ y := by
  have : n = 1 ∨ n = 2 ∨ n = 3 := by omega
  rcases this with rfl | rfl | rfl
  · exact ⟨(zimF 3).drop (zimF 1).length, by decide⟩
  · exact ⟨(zimF 3).drop (zimF 2).length, by decide⟩
  · exact ⟨[], by decide⟩
theorem unav_three {p : List UInt8} (h : unavB p = true) : isPat p = true ∧ hasB (zimF 3) p = true := by
  unfold unavB at h
  rw [Bool.and_eq_true] at h
  have hlt := pat_lt h.1
  have hne : p ≠ [] := by rintro rfl; have := (isPat_in h.1).1; simp at this
  have hr := dst_range hne hlt
  obtain ⟨y, hy⟩ := zimF_more hr.1 hr.2
  rw [hy]
  exact ⟨h.1, hasB_more y hlt hne h.2⟩
theorem zimF_size : ∀ n, n ≤ 5 → (zimF n).length + 1 = 2 ^ n := by decide
theorem zimF_is3 : isWord (zimF 3) = true := by decide
/-- The greatest number of letters of words that avoid a pattern. -/
theorem longF_is {p : List UInt8} {k : Nat} : ∀ (f n m : Nat), hasAv p k n = true → longF p k f n = some m → hasAv p k m = true ∧ hasAv p k (m + 1) = false ∧ m < n + f
  | 0, n, m, _, h => by unfold longF at h; cases h
  | f + 1, n, m, hn, h => by
    unfold longF at h
    cases ha : hasAv p k (n + 1)
    · rw [ha, if_neg (by decide)] at h
      injection h with h
      subst h
      exact ⟨hn, ha, by omega⟩
    · rw [ha, if_pos rfl] at h
      obtain ⟨h1, h2, h3⟩ := longF_is f (n + 1) m ha h
      exact ⟨h1, h2, by omega⟩
theorem hasAv_zero (p : List UInt8) (k : Nat) : hasAv p k 0 = true := rfl
/-- Codes and values of the first and of the number of words that avoid a pattern. -/
def avOk (p : List UInt8) (k n : Int) (t : Int) : Bool := isPat p && (decide (1 ≤ k ∧ k ≤ 3) && decide (0 ≤ n ∧ n ≤ t))
def avC (p : List UInt8) (k n : Int) (t : Int) : Int := if isPat p then (if decide (1 ≤ k ∧ k ≤ 3) && decide (0 ≤ n ∧ n ≤ t) then 0 else 2) else 1
def avAll (p : List UInt8) (k n : Int) : List (List UInt8) := avL p k.toNat n.toNat []
def firstC (p : List UInt8) (k n : Int) : Int := if avC p k n 12 = 0 then (if emL (avAll p k n) then 4 else 0) else avC p k n 12
def firstT (p : List UInt8) (k n : Int) : List UInt8 := if avC p k n 12 = 0 then hdL (avAll p k n) else []
def cntC (p : List UInt8) (k n : Int) : Int := avC p k n 9
def cntT (p : List UInt8) (k n : Int) : Int := if avC p k n 9 = 0 then ((avAll p k n).length : Nat) else 0
theorem avC_zero {p : List UInt8} {k n t : Int} (h : avC p k n t = 0) : isPat p = true ∧ (1 ≤ k ∧ k ≤ 3) ∧ (0 ≤ n ∧ n ≤ t) := by
  unfold avC at h
  cases hp : isPat p
  · rw [hp] at h; simp at h
  · rw [hp, if_pos rfl] at h
    cases hb : decide (1 ≤ k ∧ k ≤ 3) && decide (0 ≤ n ∧ n ≤ t)
    · rw [hb] at h; simp at h
    · rw [Bool.and_eq_true, decide_eq_true_eq, decide_eq_true_eq] at hb
      exact ⟨rfl, hb.1, hb.2⟩
theorem avC_ok {p : List UInt8} {k n t : Int} (hp : isPat p = true) (hk : 1 ≤ k ∧ k ≤ 3) (hn : 0 ≤ n ∧ n ≤ t) : avC p k n t = 0 := by
  unfold avC
  rw [hp, if_pos rfl, decide_eq_true hk, decide_eq_true hn]; rfl
theorem first_ok {p : List UInt8} {k n : Int} (h : firstC p k n = 0) : (firstT p k n).length = n.toNat ∧ 0 ≤ n ∧ isWord (firstT p k n) = true ∧ isPat p = true ∧ hasB (firstT p k n) p = false := by
  unfold firstC at h
  by_cases h0 : avC p k n 12 = 0
  · rw [if_pos h0] at h
    obtain ⟨hp, hk, hn⟩ := avC_zero h0
    cases he : emL (avAll p k n)
    · have hm := hdL_mem he
      have hne : p ≠ [] := by rintro rfl; have := (isPat_in hp).1; simp at this
      obtain ⟨h1, h2, h3⟩ := avL_word (k := k.toNat) (n := n.toNat) (by omega) (by omega) (pat_lt hp) hne hm
      unfold firstT
      rw [if_pos h0]
      exact ⟨h1, hn.1, h2, hp, h3⟩
    · rw [he, if_pos rfl] at h; omega
  · rw [if_neg h0] at h; exact absurd h h0
theorem first_no {p : List UInt8} {k n : Int} (h : firstC p k n ≠ 0) : firstT p k n = [] := by
  unfold firstC at h
  unfold firstT
  by_cases h0 : avC p k n 12 = 0
  · rw [if_pos h0] at h ⊢
    cases he : emL (avAll p k n)
    · rw [he, if_neg (by decide)] at h; exact absurd rfl h
    · have := emL_iff he
      rw [this]; rfl
  · rw [if_neg h0]
theorem firstC_in {p : List UInt8} {k n : Int} (hp : isPat p = true) (hk : 1 ≤ k ∧ k ≤ 3) (hn : 0 ≤ n ∧ n ≤ 12) : firstC p k n = if hasAv p k.toNat n.toNat then 0 else 4 := by
  unfold firstC
  rw [if_pos (avC_ok hp hk hn)]
  unfold avAll hasAv
  cases h : avL p k.toNat n.toNat [] <;> simp [emL]
/-- The longest ones: those of so many letters are there, those of one more are not. -/
theorem long_first {p : List UInt8} {k : Int} (h : longC p k = 0) : firstC p k (longT p k) = 0 ∧ firstC p k (longT p k + 1) = 4 ∧ 0 ≤ longT p k ∧ longT p k ≤ 10 := by
  unfold longC at h
  unfold longT
  cases hp : isPat p
  · rw [hp] at h; simp at h
  · rw [hp, if_pos rfl] at h
    by_cases hk : 1 ≤ k ∧ k ≤ 2
    · rw [if_pos hk] at h
      rw [decide_eq_true hk, Bool.true_and, if_pos rfl]
      cases hf : longF p k.toNat 11 0 with
      | none => rw [hf] at h; simp at h
      | some m =>
        obtain ⟨h1, h2, h3⟩ := longF_is 11 0 m (hasAv_zero p _) hf
        simp only
        rw [firstC_in hp (by omega) (by omega), firstC_in hp (by omega) (by omega), show ((m : Int) + 1).toNat = m + 1 by omega, Int.toNat_natCast, h1, h2]
        exact ⟨rfl, rfl, by omega, by omega⟩
    · rw [if_neg hk] at h; omega
/-- There are words just where there is a first one. -/
theorem cnt_first {p : List UInt8} {k n : Int} (h : cntC p k n = 0) : (0 < cntT p k n) ↔ firstC p k n = 0 := by
  obtain ⟨hp, hk, hn⟩ := avC_zero h
  unfold cntC at h
  rw [firstC_in hp hk (by omega)]
  unfold cntT
  rw [if_pos h]
  unfold avAll hasAv
  cases avL p k.toNat n.toNat [] with
  | nil => simp
  | cons a l => simp
end Go.Proofs.Yticejlplbibegaa

/- Plain law: words that fit have the pattern; marks of variables; the factor of the values. -/
import Derived.Test.YtbefijbmgmbphaaM15
import Derived.Test.YtbefijbmgmbphaaC58
import Derived.Test.YtbefijbmgmbphaaC57
namespace Go.Proofs.Ytbefijbmgmbphaa
open Go
set_option linter.unusedSimpArgs false
set_option linter.unusedVariables false

theorem fits_has {u q : List UInt8} (hq : ∀ c ∈ q, vIdx c < 3) (hq1 : q ≠ []) (h : fitsB u q = true) : hasB u q = true := by
  obtain ⟨V, hf⟩ := (fitsB_iff hq).1 h
  refine (hasB_iff hq hq1).2 ⟨0, V, hf.goes, ?_⟩
  rw [hf.word, List.drop_zero]
  exact List.prefix_refl u
/-- Where the values of the variables stand, of the first k variables. -/
def atL (V : Vals) (k : Nat) : List Int := (List.range 3).map fun j => if j < k ∧ V.getD j [] ≠ [] then (idxV V j : Int) else -1
theorem atL_len (V : Vals) (k : Nat) : (atL V k).length = 3 := by simp [atL]
theorem atL_get (V : Vals) (k : Nat) {j : Nat} (hj : j < 3) : (atL V k)[j]? = some (if j < k ∧ V.getD j [] ≠ [] then (idxV V j : Int) else -1) := by
  unfold atL
  rw [List.getElem?_map, List.getElem?_range hj]; rfl
theorem atL_zero (V : Vals) : atL V 0 = [-1, -1, -1] := by
  apply List.ext_getElem?
  intro i
  by_cases h : i < 3
  · rw [atL_get V 0 h, if_neg (by omega)]
    have : i = 0 ∨ i = 1 ∨ i = 2 := by omega
    rcases this with rfl | rfl | rfl <;> rfl
  · rw [List.getElem?_eq_none (by rw [atL_len]; omega), List.getElem?_eq_none (by simp; omega)]
theorem atL_ext {V : Vals} {k : Nat} {l : List Int} (hl : l.length = 3) (h : ∀ j, j < 3 → l[j]? = (atL V k)[j]?) : l = atL V k := by
  apply List.ext_getElem?
  intro i
  by_cases hi : i < 3
  · exact h i hi
  · rw [List.getElem?_eq_none (by omega), List.getElem?_eq_none (by rw [atL_len]; omega)]
theorem atL_set {V : Vals} {k : Nat} (hk : k < 3) (h : V.getD k [] ≠ []) : (atL V k).set k (idxV V k : Int) = atL V (k + 1) := by
  apply atL_ext (by rw [List.length_set, atL_len])
  intro j hj
  rw [atL_get V (k + 1) hj]
  by_cases e : k = j
  · subst e
    rw [List.getElem?_set_self (by rw [atL_len]; exact hk), if_pos ⟨by omega, h⟩]
  · rw [List.getElem?_set_ne e, atL_get V k hj]
    by_cases h2 : j < k
    · by_cases h3 : V.getD j [] = []
      · rw [if_neg (by rintro ⟨_, q⟩; exact q h3), if_neg (by rintro ⟨_, q⟩; exact q h3)]
      · rw [if_pos ⟨h2, h3⟩, if_pos ⟨by omega, h3⟩]
    · rw [if_neg (by omega), if_neg (by omega)]
theorem atL_same {V : Vals} {k : Nat} (h : V.getD k [] = []) : atL V k = atL V (k + 1) := by
  apply atL_ext (atL_len V k)
  intro j hj
  rw [atL_get V (k + 1) hj, atL_get V k hj]
  by_cases e : k = j
  · subst e
    rw [if_neg (by omega), if_neg (by rintro ⟨_, q⟩; exact q h)]
  · by_cases h2 : j < k
    · by_cases h3 : V.getD j [] = []
      · rw [if_neg (by rintro ⟨_, q⟩; exact q h3), if_neg (by rintro ⟨_, q⟩; exact q h3)]
      · rw [if_pos ⟨h2, h3⟩, if_pos ⟨by omega, h3⟩]
    · rw [if_neg (by omega), if_neg (by omega)]
theorem subV_snoc {p : List UInt8} {i : Nat} (hi : i < p.length) (V : Vals) : subV (p.take (i + 1)) V = subV (p.take i) V ++ V.getD (vIdx p[i]) [] := by
  rw [take_snoc p hi]
  unfold subV
  rw [List.flatMap_append, List.flatMap_singleton]
theorem subV_take_le (p : List UInt8) (i : Nat) (V : Vals) : (subV (p.take i) V).length ≤ (subV p V).length := by
  have e : subV p V = subV (p.take i) V ++ subV (p.drop i) V := by
    unfold subV
    rw [← List.flatMap_append, List.take_append_drop]
  rw [e, List.length_append]; omega
theorem occ_take {p : List UInt8} {i k : Nat} (hi : i < p.length) : occ (p.take (i + 1)) k ↔ occ (p.take i) k ∨ vIdx p[i] = k := by
  rw [take_snoc p hi]
  constructor
  · rintro ⟨c, hc, e⟩
    rcases List.mem_append.1 hc with h | h
    · exact .inl ⟨c, h, e⟩
    · rw [List.mem_singleton.1 h] at e; exact .inr e
  · rintro (⟨c, hc, e⟩ | e)
    · exact ⟨c, List.mem_append.2 (.inl hc), e⟩
    · exact ⟨_, List.mem_append.2 (.inr (List.mem_singleton.2 rfl)), e⟩
theorem occ_of_take {p : List UInt8} {i k : Nat} (h : occ (p.take i) k) : occ p k := by
  obtain ⟨c, hc, e⟩ := h
  exact ⟨c, List.mem_of_mem_take hc, e⟩
theorem plL_le (w p : List UInt8) : (plL w p).length ≤ 3 := by
  unfold plL
  cases hb : isWord w && isPat p with
  | false => simp
  | true =>
    rw [if_pos rfl]
    rw [Bool.and_eq_true] at hb
    obtain ⟨hp1, hp8, hpv⟩ := isPat_in hb.2
    have hne : p ≠ [] := by rintro rfl; simp at hp1
    have hpl := place_is (w := w) (pat_lt hb.2) hne
    cases hf : placeF w p with
    | none => simp
    | some r =>
      obtain ⟨j, V⟩ := r
      rw [hf] at hpl
      obtain ⟨_, _, hg, _⟩ := hpl
      have hV3 : V.length = 3 := hg.len
      have : (fillV V).length ≤ V.length := List.length_filter_le _ _
      show (fillV V).length ≤ 3
      omega
theorem seg_pre {w x : List UInt8} {j : Nat} (h : x <+: w.drop j) : seg w j x.length = x := by
  unfold seg
  rw [List.drop_take, show j + x.length - j = x.length by omega]
  exact take_prefix h
theorem fac_pre {w x : List UInt8} {j : Nat} (hw : isWord w = true) (hj : j < w.length) (h : x <+: w.drop j) : facC w j x.length = 0 ∧ facT w j x.length = x := by
  have hl := h.length_le
  rw [List.length_drop] at hl
  have ho : facOk w j x.length = true := by
    unfold facOk
    rw [decide_eq_true (by omega), decide_eq_true (by omega)]; rfl
  unfold facC facT
  rw [if_pos hw, if_pos hw, if_pos ho, if_pos ho, Int.toNat_natCast, Int.toNat_natCast, seg_pre h]
  exact ⟨rfl, rfl⟩
end Go.Proofs.Ytbefijbmgmbphaa

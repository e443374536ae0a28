/- Plain law: values at the first place; where the values stand. -/
import Derived.Test.YtbefijbmgmbphaaM13
import Derived.Test.YtbefijbmgmbphaaC41
namespace Go.Proofs.Ytbefijbmgmbphaa
open Go
set_option linter.unusedSimpArgs false
set_option linter.unusedVariables false

theorem sols_pos {u p : List UInt8} (hp : ∀ c ∈ p, vIdx c < 3) (hp1 : p ≠ []) : ∀ x ∈ sols u p V0 0, 1 ≤ x.2 := by
  rintro ⟨V, t⟩ hx
  obtain ⟨a, b, _⟩ := (sols0 hp).1 hx
  show 1 ≤ t
  rw [b]
  exact subV_pos a hp1
theorem placeAt_is {w p : List UInt8} (hp : ∀ c ∈ p, vIdx c < 3) (hp1 : p ≠ []) (i : Nat) : match placeAt w p i with
    | none => begB (w.drop i) p = false
    | some (j, V) => j = i ∧ Goes p V0 V ∧ subV p V <+: w.drop i := by
  have hb := best_run (sols (w.drop i) p V0 0) (0, V0) (sols_pos hp hp1)
  unfold placeAt
  rcases hb.2 with ⟨_, hn, he⟩ | ⟨h1, h2, _⟩
  · have hz : (bestF (sols (w.drop i) p V0 0)).1 = 0 := by unfold bestF; rw [he]
    rw [if_neg (by omega)]
    show begB (w.drop i) p = false
    unfold begB
    rw [hn]; rfl
  · have hz : 0 < (bestF (sols (w.drop i) p V0 0)).1 := h1
    rw [if_pos hz]
    have hm := h2.resolve_right (fun h => h.1 rfl)
    obtain ⟨a, b, c⟩ := (sols0 hp).1 hm
    exact ⟨rfl, a, c⟩
theorem placeTo_is {w p : List UInt8} (hp : ∀ c ∈ p, vIdx c < 3) (hp1 : p ≠ []) : ∀ n, match placeTo w p n with
    | none => hasTo w p n = false
    | some (j, V) => hasTo w p n = true ∧ j < n ∧ Goes p V0 V ∧ subV p V <+: w.drop j
  | 0 => rfl
  | n + 1 => by
    have ih := placeTo_is (w := w) hp hp1 n
    have ha := placeAt_is (w := w) hp hp1 n
    cases h0 : placeTo w p n with
    | none =>
      rw [h0] at ih
      have ih : hasTo w p n = false := ih
      rw [placeTo_succ h0]
      cases h1 : placeAt w p n with
      | none =>
        rw [h1] at ha
        show hasTo w p (n + 1) = false
        rw [hasTo_succ, ih, ha]; rfl
      | some r =>
        obtain ⟨j, V⟩ := r
        rw [h1] at ha
        obtain ⟨e, a, c⟩ := ha
        subst e
        exact ⟨hasTo_yes (by omega) ((begB_iff hp).2 ⟨V, a, c⟩), by omega, a, c⟩
    | some r =>
      obtain ⟨j, V⟩ := r
      rw [h0] at ih
      obtain ⟨e0, e, a, c⟩ := ih
      have h1 : placeTo w p (n + 1) = some (j, V) := by
        unfold placeTo at *
        rw [List.range_succ, List.findSome?_append, h0, Option.some_or]
      rw [h1]
      refine ⟨hasTo_yes (show j < n + 1 by omega) ((begB_iff hp).2 ⟨V, a, c⟩), by omega, a, c⟩
theorem place_is {w p : List UInt8} (hp : ∀ c ∈ p, vIdx c < 3) (hp1 : p ≠ []) : match placeF w p with
    | none => hasB w p = false
    | some (j, V) => hasB w p = true ∧ j < w.length ∧ Goes p V0 V ∧ subV p V <+: w.drop j := placeTo_is (w := w) hp hp1 w.length
/-- How many of the first k values are there. -/
def idxV (V : Vals) (k : Nat) : Nat := (fillV (V.take k)).length
theorem idxV_zero (V : Vals) : idxV V 0 = 0 := by simp [idxV, fillV]
theorem idxV_succ {V : Vals} {k : Nat} (hk : k < V.length) : idxV V (k + 1) = idxV V k + if V.getD k [] = [] then 0 else 1 := by
  unfold idxV fillV
  rw [take_snoc V hk, List.filter_append, List.length_append, List.getD_eq_getElem?_getD, List.getElem?_eq_getElem hk, Option.getD_some]
  cases h : V[k] with
  | nil => simp [h]
  | cons a l => simp [h]
theorem idxV_all {V : Vals} {k : Nat} (hk : V.length ≤ k) : idxV V k = (fillV V).length := by
  unfold idxV
  rw [List.take_of_length_le hk]
theorem fill_at {V : Vals} {k : Nat} (hk : k < V.length) (h : V.getD k [] ≠ []) : (fillV V)[idxV V k]? = some (V.getD k []) := by
  rw [List.getD_eq_getElem?_getD, List.getElem?_eq_getElem hk, Option.getD_some] at h ⊢
  have e : V = V.take k ++ V[k] :: V.drop (k + 1) := by rw [← List.drop_eq_getElem_cons hk, List.take_append_drop]
  have e2 : fillV V = fillV (V.take k) ++ V[k] :: fillV (V.drop (k + 1)) := by
    unfold fillV
    conv => lhs; rw [e]
    rw [List.filter_append, List.filter_cons_of_pos]
    cases hv : V[k] with
    | nil => exact absurd hv h
    | cons a l => rfl
  rw [e2]
  unfold idxV
  rw [List.getElem?_append_right (Nat.le_refl _), Nat.sub_self]; rfl
/-- The length of the values of the first k variables. -/
def lenTo (p : List UInt8) (V : Vals) : Nat → Nat
  | 0 => 0
  | k + 1 => lenTo p V k + cntV p k * (V.getD k []).length
theorem cntV_cons (c : UInt8) (p : List UInt8) (k : Nat) : cntV (c :: p) k = cntV p k + if vIdx c = k then 1 else 0 := by
  unfold cntV
  rw [List.countP_cons]
  congr 1
  by_cases h : vIdx c = k
  · rw [if_pos h, if_pos (by rw [beq_iff_eq]; exact h)]
  · rw [if_neg h, if_neg (by rw [beq_iff_eq]; exact h)]
theorem lenTo_cons {c : UInt8} (p : List UInt8) (V : Vals) : ∀ k, lenTo (c :: p) V k = lenTo p V k + if vIdx c < k then (V.getD (vIdx c) []).length else 0
  | 0 => rfl
  | k + 1 => by
    unfold lenTo
    rw [lenTo_cons p V k, cntV_cons, Nat.add_mul]
    by_cases h : vIdx c = k
    · rw [if_pos h, if_neg (by omega), if_pos (by omega), h]; omega
    · rw [if_neg h]
      by_cases h2 : vIdx c < k
      · rw [if_pos h2, if_pos (by omega)]; omega
      · rw [if_neg h2, if_neg (by omega)]; omega
theorem lenTo_all {p : List UInt8} (hp : ∀ c ∈ p, vIdx c < 3) (V : Vals) : lenTo p V 3 = (subV p V).length := by
  induction p with
  | nil => simp [lenTo, cntV, subV_nil]
  | cons c p ih =>
    rw [lenTo_cons, ih fun x hx => hp x (List.mem_cons_of_mem _ hx), if_pos (hp c (List.mem_cons_self ..)), subV_cons, List.length_append]
    omega
end Go.Proofs.Ytbefijbmgmbphaa

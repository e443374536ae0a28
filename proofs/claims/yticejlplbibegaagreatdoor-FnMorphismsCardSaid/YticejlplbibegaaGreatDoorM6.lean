/- Plain law: the first one of the shortest words with an image. -/
import Derived.Test.YticejlplbibegaaGreatDoorC17
import Derived.Test.YticejlplbibegaaGreatDoorM2
namespace Go.Proofs.YticejlplbibegaaGreatDoor
open Go
/-- How many letters are needed from a place on (if any word is there), and the first letter. -/
abbrev Cell := Option Nat × Nat
/-- What an image at a place leads to; t tells of the places behind. -/
def cand (w : List UInt8) (t : List Cell) (i : Nat) (own : List UInt8) : Option Nat := if own = [] then none else if own.isPrefixOf (w.drop i) then (t.getD (own.length - 1) (none, 0)).1 else none
def updC (cur : Cell) (k : Nat) : Option Nat → Cell
  | none => cur
  | some s => match cur.1 with
    | none => (some (s + 1), k)
    | some x => if s + 1 < x then (some (s + 1), k) else cur
def cellT (w : List UInt8) (ws : List (List UInt8)) (t : List Cell) (i : Nat) : Nat → Cell
  | 0 => (none, 0)
  | k + 1 => updC (cellT w ws t i k) k (cand w t i (ws.getD k []))
/-- The cells of the last places. -/
def tabT (w : List UInt8) (ws : List (List UInt8)) : Nat → List Cell
  | 0 => [(some 0, 0)]
  | m + 1 => cellT w ws (tabT w ws m) (w.length - (m + 1)) ws.length :: tabT w ws m
theorem tabT_length (w : List UInt8) (ws : List (List UInt8)) : ∀ m, (tabT w ws m).length = m + 1
  | 0 => rfl
  | m + 1 => by rw [tabT, List.length_cons, tabT_length w ws m]
theorem cand_some {w : List UInt8} {t : List Cell} {i s : Nat} {own : List UInt8} (h : cand w t i own = some s) : own ≠ [] ∧ own.isPrefixOf (w.drop i) = true ∧ (t.getD (own.length - 1) (none, 0)).1 = some s := by
  unfold cand at h
  split at h
  · cases h
  · rename_i h1
    split at h
    · rename_i h2; exact ⟨h1, h2, h⟩
    · cases h
theorem cell_spec (w : List UInt8) (ws : List (List UInt8)) (t : List Cell) (i : Nat) : ∀ k, ((cellT w ws t i k).1 = none → ∀ j, j < k → cand w t i (ws.getD j []) = none) ∧
    (∀ x, (cellT w ws t i k).1 = some x → (cellT w ws t i k).2 < k ∧ (∃ s, cand w t i (ws.getD (cellT w ws t i k).2 []) = some s ∧ x = s + 1) ∧ (∀ j s, j < k → cand w t i (ws.getD j []) = some s → x ≤ s + 1) ∧ ∀ j s, j < (cellT w ws t i k).2 → cand w t i (ws.getD j []) = some s → x < s + 1)
  | 0 => ⟨fun _ j hj => absurd hj (Nat.not_lt_zero j), fun x h => by cases h⟩
  | k + 1 => by
    obtain ⟨h1, h2⟩ := cell_spec w ws t i k
    have e : cellT w ws t i (k + 1) = updC (cellT w ws t i k) k (cand w t i (ws.getD k [])) := rfl
    rw [e]
    cases hc : cand w t i (ws.getD k []) with
    | none =>
      show ((cellT w ws t i k).1 = none → _) ∧ _
      refine ⟨fun h j hj => ?_, fun x hx => ?_⟩
      · by_cases hjk : j = k
        · subst hjk; exact hc
        · exact h1 h j (by omega)
      · obtain ⟨q1, q2, q3, q4⟩ := h2 x hx
        refine ⟨by show (cellT w ws t i k).2 < k + 1; omega, q2, fun j s hj hs => ?_, q4⟩
        by_cases hjk : j = k
        · subst hjk; rw [hc] at hs; cases hs
        · exact q3 j s (by omega) hs
    | some s0 =>
      cases hcur : (cellT w ws t i k).1 with
      | none =>
        have e2 : updC (cellT w ws t i k) k (some s0) = (some (s0 + 1), k) := by unfold updC; rw [hcur]
        rw [e2]
        refine ⟨fun h => (by cases h), fun x hx => ?_⟩
        injection hx with hx
        subst hx
        refine ⟨Nat.lt_succ_self k, ⟨s0, hc, rfl⟩, fun j s hj hs => ?_, fun j s hj hs => ?_⟩
        · by_cases hjk : j = k
          · subst hjk; rw [hc] at hs; injection hs with hs; omega
          · rw [h1 hcur j (by omega)] at hs; cases hs
        · rw [h1 hcur j hj] at hs; cases hs
      | some x0 =>
        obtain ⟨q1, q2, q3, q4⟩ := h2 x0 hcur
        by_cases hlt : s0 + 1 < x0
        · have e2 : updC (cellT w ws t i k) k (some s0) = (some (s0 + 1), k) := by unfold updC; rw [hcur]; exact if_pos hlt
          rw [e2]
          refine ⟨fun h => (by cases h), fun x hx => ?_⟩
          injection hx with hx
          subst hx
          refine ⟨Nat.lt_succ_self k, ⟨s0, hc, rfl⟩, fun j s hj hs => ?_, fun j s hj hs => ?_⟩
          · by_cases hjk : j = k
            · subst hjk; rw [hc] at hs; injection hs with hs; omega
            · have := q3 j s (by omega) hs; omega
          · have := q3 j s hj hs; omega
        · have e2 : updC (cellT w ws t i k) k (some s0) = cellT w ws t i k := by unfold updC; rw [hcur]; exact if_neg hlt
          rw [e2]
          refine ⟨fun h => (by rw [hcur] at h; cases h), fun x hx => ?_⟩
          rw [hcur] at hx
          injection hx with hx
          subst hx
          refine ⟨by omega, q2, fun j s hj hs => ?_, q4⟩
          by_cases hjk : j = k
          · subst hjk; rw [hc] at hs; injection hs with hs; omega
          · exact q3 j s (by omega) hs
theorem cell_le {w : List UInt8} {ws : List (List UInt8)} {t : List Cell} {i B : Nat} (h : ∀ c ∈ t, ∀ s, c.1 = some s → s ≤ B) (k x : Nat) (hx : (cellT w ws t i k).1 = some x) : x ≤ B + 1 := by
  obtain ⟨_, ⟨s, hs, rfl⟩, _⟩ := (cell_spec w ws t i k).2 x hx
  have := (cand_some hs).2.2
  rw [List.getD_eq_getElem?_getD] at this
  cases hg : t[(ws.getD (cellT w ws t i k).2 []).length - 1]? with
  | none => rw [hg] at this; cases this
  | some c =>
    rw [hg] at this
    have := h c (List.mem_of_getElem? hg) s this
    omega
theorem tabT_le (w : List UInt8) (ws : List (List UInt8)) : ∀ m, ∀ c ∈ tabT w ws m, ∀ s, c.1 = some s → s ≤ m
  | 0, c, hc, s, hs => by
    rw [tabT, List.mem_singleton] at hc
    subst hc
    injection hs with hs
    omega
  | m + 1, c, hc, s, hs => by
    have ih := tabT_le w ws m
    rw [tabT] at hc
    rcases List.mem_cons.1 hc with rfl | hc
    · exact cell_le ih ws.length s hs
    · have := ih c hc s hs; omega
theorem tabT_b (w : List UInt8) (ws : List (List UInt8)) : ∀ m, ∀ c ∈ tabT w ws m, c.2 ≤ ws.length
  | 0, c, hc => by
    rw [tabT, List.mem_singleton] at hc
    subst hc
    exact Nat.zero_le _
  | m + 1, c, hc => by
    rw [tabT] at hc
    rcases List.mem_cons.1 hc with rfl | hc
    · cases h : (cellT w ws (tabT w ws m) (w.length - (m + 1)) ws.length).1 with
      | some x => have := ((cell_spec w ws (tabT w ws m) (w.length - (m + 1)) ws.length).2 x h).1; omega
      | none =>
        have key : ∀ k, (cellT w ws (tabT w ws m) (w.length - (m + 1)) k).2 ≤ k := by
          intro k
          induction k with
          | zero => exact Nat.le_refl 0
          | succ k ih =>
            show (updC _ k _).2 ≤ k + 1
            unfold updC
            split
            · omega
            · split
              · exact Nat.le_succ k
              · split
                · exact Nat.le_succ k
                · omega
        exact key _
    · exact tabT_b w ws m c hc
/-- The cell of a place. -/
def entT (w : List UInt8) (ws : List (List UInt8)) (i : Nat) : Cell := (tabT w ws (w.length - i)).headD (none, 0)
theorem tabT_ent (w : List UInt8) (ws : List (List UInt8)) : ∀ m j, j ≤ m → m ≤ w.length → (tabT w ws m)[j]? = some (entT w ws (w.length - m + j))
  | m, 0, _, hm => by
    unfold entT
    rw [Nat.add_zero, show w.length - (w.length - m) = m by omega]
    cases m <;> rfl
  | 0, j + 1, h, _ => by omega
  | m + 1, j + 1, h, hm => by
    rw [tabT, List.getElem?_cons_succ, tabT_ent w ws m j (by omega) (by omega)]
    congr 2
    omega
theorem ent_step (w : List UInt8) (ws : List (List UInt8)) {i : Nat} (h : i < w.length) : entT w ws i = cellT w ws (tabT w ws (w.length - i - 1)) i ws.length := by
  unfold entT
  obtain ⟨m, hm⟩ : ∃ m, w.length - i = m + 1 := ⟨w.length - i - 1, by omega⟩
  rw [hm, tabT, show m + 1 - 1 = m by omega, show w.length - (m + 1) = i by omega]
  rfl
theorem ent_last (w : List UInt8) (ws : List (List UInt8)) : entT w ws w.length = (some 0, 0) := by
  unfold entT
  rw [Nat.sub_self]; rfl
/-- What an image leads to, by the cells of the places. -/
theorem cand_ent {w : List UInt8} {ws : List (List UInt8)} {i : Nat} {own : List UInt8} (h : i < w.length) (h0 : own ≠ []) (hp : own.isPrefixOf (w.drop i) = true) : cand w (tabT w ws (w.length - i - 1)) i own = (entT w ws (i + own.length)).1 := by
  unfold cand
  rw [if_neg h0, if_pos hp, List.getD_eq_getElem?_getD]
  have hl := prefix_len hp
  rw [List.length_drop] at hl
  have h1 : 1 ≤ own.length := by cases own with
    | nil => exact absurd rfl h0
    | cons a l => simp
  rw [tabT_ent w ws _ _ (by omega) (by omega), show w.length - (w.length - i - 1) + (own.length - 1) = i + own.length by omega]
  rfl
/-- The word by the first letters. -/
def outF (w : List UInt8) (ws : List (List UInt8)) : Nat → Nat → List UInt8
  | 0, _ => []
  | f + 1, i => if i < w.length then ltr (entT w ws i).2 :: outF w ws f (i + (ws.getD (entT w ws i).2 []).length) else []
theorem outF_end {w : List UInt8} {ws : List (List UInt8)} {i : Nat} (h : ¬ i < w.length) : ∀ f, outF w ws f i = []
  | 0 => rfl
  | f + 1 => by unfold outF; rw [if_neg h]
/-- On the way from a place that can be left, each place can be left. -/
theorem ent_way {w : List UInt8} {ws : List (List UInt8)} {i x : Nat} (h : i < w.length) (hx : (entT w ws i).1 = some x) : (entT w ws i).2 < ws.length ∧ ws.getD (entT w ws i).2 [] ≠ [] ∧ (ws.getD (entT w ws i).2 []).isPrefixOf (w.drop i) = true ∧ (∃ s, (entT w ws (i + (ws.getD (entT w ws i).2 []).length)).1 = some s ∧ x = s + 1) ∧ i + (ws.getD (entT w ws i).2 []).length ≤ w.length ∧
    ∀ j, j < (entT w ws i).2 → ws.getD j [] ≠ [] → (ws.getD j []).isPrefixOf (w.drop i) = true → ∀ s, (entT w ws (i + (ws.getD j []).length)).1 = some s → x ≠ s + 1 := by
  have e := ent_step w ws h
  have hsp := (cell_spec w ws (tabT w ws (w.length - i - 1)) i ws.length).2 x (by rw [← e]; exact hx)
  rw [← e] at hsp
  obtain ⟨q1, ⟨s, hs, hxs⟩, q3, q4⟩ := hsp
  obtain ⟨c1, c2, c3⟩ := cand_some hs
  have hl := prefix_len c2
  rw [List.length_drop] at hl
  refine ⟨q1, c1, c2, ⟨s, ?_, hxs⟩, by omega, fun j hj h0 hp s' hs' => ?_⟩
  · rw [← cand_ent h c1 c2]; exact hs
  · have := q4 j s' hj (by rw [cand_ent h h0 hp]; exact hs')
    omega
def fromT (ws : List (List UInt8)) (w : List UInt8) : List UInt8 := if codeM ws w = 0 then (match (entT w ws 0).1 with | some _ => outF w ws w.length 0 | none => []) else []
def fromC (ws : List (List UInt8)) (w : List UInt8) : Int := if codeM ws w = 0 then (match (entT w ws 0).1 with | some _ => 0 | none => 4) else codeM ws w
end Go.Proofs.YticejlplbibegaaGreatDoor

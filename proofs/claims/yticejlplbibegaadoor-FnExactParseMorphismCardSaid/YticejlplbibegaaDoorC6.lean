/- Contracts: words with names. -/
import Derived.Test.YticejlplbibegaaDoorCA
namespace Go.Proofs.YticejlplbibegaaDoor
open Go
set_option linter.unusedSimpArgs false
set_option linter.unusedVariables false

/-- The images of the morphism behind a name. -/
def named (l : List UInt8) : Option (List (List UInt8)) :=
  if l = [102, 105, 98, 111, 110, 97, 99, 99, 105] then some [[97, 98], [97]]
  else if l = [116, 104, 117, 101] then some [[97, 98], [98, 97]]
  else if l = [100, 111, 117, 98, 108, 105, 110, 103] then some [[97, 98], [97, 97]]
  else if l = [116, 114, 105, 112, 108, 101] then some [[97, 98, 99], [97, 99], [98]]
  else none
def imgOf (ws : List (List UInt8)) (l : List UInt8) : List UInt8 := l.flatMap fun u => ws.getD (u.toNat - 97) []
def growW (ws : List (List UInt8)) (m : Nat) : Nat → List UInt8 → List UInt8
  | 0, l => l
  | f + 1, l => if l.length < m then growW ws m f (imgOf ws l) else l
structure Nice (ws : List (List UInt8)) : Prop where
  len : ∀ w ∈ ws, 1 ≤ w.length ∧ w.length ≤ 3
  ltr : ∀ w ∈ ws, ∀ u ∈ w, 97 ≤ u.toNat ∧ u.toNat - 97 < ws.length
  head : ∃ b r rest, ws = (97 :: b :: r) :: rest
  few : ws.length ≤ 3
theorem nice_named {l : List UInt8} {ws : List (List UInt8)} (h : named l = some ws) : Nice ws := by
  unfold named at h
  split at h
  · injection h with h; subst h; exact ⟨by decide, by decide, ⟨_, _, _, rfl⟩, by decide⟩
  · split at h
    · injection h with h; subst h; exact ⟨by decide, by decide, ⟨_, _, _, rfl⟩, by decide⟩
    · split at h
      · injection h with h; subst h; exact ⟨by decide, by decide, ⟨_, _, _, rfl⟩, by decide⟩
      · split at h
        · injection h with h; subst h; exact ⟨by decide, by decide, ⟨_, _, _, rfl⟩, by decide⟩
        · cases h
/-- A word of the letters that have images, beginning with a. -/
structure Grown (ws : List (List UInt8)) (l : List UInt8) : Prop where
  ltr : ∀ u ∈ l, 97 ≤ u.toNat ∧ u.toNat - 97 < ws.length
  head : ∃ r, l = 97 :: r
theorem imgOf_nil (ws : List (List UInt8)) : imgOf ws [] = [] := rfl
theorem imgOf_cons (ws : List (List UInt8)) (u : UInt8) (l : List UInt8) : imgOf ws (u :: l) = ws.getD (u.toNat - 97) [] ++ imgOf ws l := by simp [imgOf]
theorem imgOf_snoc (ws : List (List UInt8)) (u : UInt8) (l : List UInt8) : imgOf ws (l ++ [u]) = imgOf ws l ++ ws.getD (u.toNat - 97) [] := by simp [imgOf]
theorem getD_mem {ws : List (List UInt8)} {k : Nat} (h : k < ws.length) : ws.getD k [] ∈ ws := by
  rw [List.getD_eq_getElem?_getD, List.getElem?_eq_getElem h]; exact List.getElem_mem h
theorem imgOf_len {ws : List (List UInt8)} (hn : Nice ws) : ∀ (l : List UInt8), (∀ u ∈ l, 97 ≤ u.toNat ∧ u.toNat - 97 < ws.length) → l.length ≤ (imgOf ws l).length ∧ (imgOf ws l).length ≤ 3 * l.length
  | [], _ => ⟨Nat.le_refl _, Nat.le_refl _⟩
  | u :: l, h => by
    have ih := imgOf_len hn l fun v hv => h v (List.mem_cons_of_mem _ hv)
    have h1 := hn.len _ (getD_mem (h u (List.mem_cons_self ..)).2)
    rw [imgOf_cons, List.length_append, List.length_cons]
    omega
theorem Grown.img {ws : List (List UInt8)} (hn : Nice ws) {l : List UInt8} (h : Grown ws l) : Grown ws (imgOf ws l) ∧ l.length < (imgOf ws l).length := by
  obtain ⟨r, rfl⟩ := h.head
  obtain ⟨b, r', rest, hw⟩ := hn.head
  have hr : ∀ u ∈ r, 97 ≤ u.toNat ∧ u.toNat - 97 < ws.length := fun u hu => h.ltr u (List.mem_cons_of_mem _ hu)
  have hl := imgOf_len hn r hr
  have h0 : ws.getD ((97 : UInt8).toNat - 97) [] = 97 :: b :: r' := by rw [hw]; rfl
  refine ⟨⟨?_, ?_⟩, ?_⟩
  · intro u hu
    unfold imgOf at hu
    obtain ⟨v, hv, hu⟩ := List.mem_flatMap.1 hu
    exact hn.ltr _ (getD_mem (h.ltr v hv).2) u hu
  · rw [imgOf_cons, h0]; exact ⟨_, rfl⟩
  · rw [imgOf_cons, h0]; simp only [List.length_append, List.length_cons]; omega
theorem growW_done {ws : List (List UInt8)} {m : Nat} {l : List UInt8} (h : m ≤ l.length) : ∀ f, growW ws m f l = l
  | 0 => rfl
  | f + 1 => by unfold growW; rw [if_neg (by omega)]
theorem growW_step {ws : List (List UInt8)} {m f : Nat} {l : List UInt8} (h : l.length < m) (hf : m ≤ l.length + f) : growW ws m f l = growW ws m (f - 1) (imgOf ws l) := by
  match f, hf with
  | 0, hf => omega
  | f + 1, hf => conv => lhs; unfold growW
                 rw [if_pos h]; rfl
def namedT (l : List UInt8) (m : Int) : List UInt8 :=
  if 0 ≤ m ∧ m ≤ 60 then (match named l with | some ws => (growW ws m.toNat 60 [97]).take m.toNat | none => []) else []
def namedC (l : List UInt8) (m : Int) : Int := if 0 ≤ m ∧ m ≤ 60 then (match named l with | some ws => 0 | none => 4) else 2
theorem str_nil : (Value.string (ByteArray.mk (List.toArray []))) = str [] := rfl
theorem beq_of {a b : List UInt8} (h : a = b) : (a == b) = true := by rw [h]; exact beq_self_eq_true _
theorem beq_no {a b : List UInt8} (h : ¬ a = b) : (a == b) = false := beq_eq_false_iff_ne.2 h
end Go.Proofs.YticejlplbibegaaDoor

/- Plain law: bytes that are sorted by exchanges. -/
import Derived.Test.YticejlplbibegaaC12
namespace Go.Proofs.Yticejlplbibegaa
set_option linter.unusedVariables false

/-- The i-th byte as a number. -/
def K (L : List UInt8) (i : Nat) : Nat := (L.getD i 0).toNat
def swp (L : List UInt8) (i j : Nat) : List UInt8 := (L.set i (L.getD j 0)).set j (L.getD i 0)
theorem K_at {L : List UInt8} {i : Nat} (h : i < L.length) : K L i = L[i].toNat := by unfold K; rw [List.getD_eq_getElem?_getD, List.getElem?_eq_getElem h]; rfl
theorem K_lt (L : List UInt8) (i : Nat) : K L i < 256 := (L.getD i 0).toNat_lt
theorem swp_len (L : List UInt8) (i j : Nat) : (swp L i j).length = L.length := by unfold swp; rw [List.length_set, List.length_set]
theorem K_swp {L : List UInt8} {i j : Nat} (hi : i < L.length) (hj : j < L.length) (k : Nat) : K (swp L i j) k = if k = j then K L i else if k = i then K L j else K L k := by
  unfold K swp
  rw [List.getD_eq_getElem?_getD, List.getElem?_set, List.length_set]
  by_cases e : j = k
  · subst e; rw [if_pos rfl, if_pos hj, if_pos rfl]; rfl
  · rw [if_neg e, if_neg (Ne.symm e), List.getElem?_set]
    by_cases e2 : i = k
    · subst e2; rw [if_pos rfl, if_pos hi, if_pos rfl]; rfl
    · rw [if_neg e2, if_neg (Ne.symm e2), ← List.getD_eq_getElem?_getD]
theorem swp_perm {L : List UInt8} {i j : Nat} (hi : i < L.length) (hj : j < L.length) : (swp L i j).Perm L := by
  have e1 : L.getD i 0 = L[i] := by rw [List.getD_eq_getElem?_getD, List.getElem?_eq_getElem hi]; rfl
  have e2 : L.getD j 0 = L[j] := by rw [List.getD_eq_getElem?_getD, List.getElem?_eq_getElem hj]; rfl
  unfold swp
  rw [e1, e2]
  exact List.set_set_perm hi hj
/-- L' comes of L by exchanges between the places a and b. -/
structure SP (a b : Nat) (L L' : List UInt8) : Prop where
  len : L'.length = L.length
  out : ∀ i, i < a ∨ b ≤ i → K L' i = K L i
  inn : ∀ P : Nat → Prop, (∀ i, a ≤ i → i < b → P (K L i)) → ∀ i, a ≤ i → i < b → P (K L' i)
  perm : L'.Perm L
theorem SP.refl (a b : Nat) (L : List UInt8) : SP a b L L := ⟨rfl, fun _ _ => rfl, fun _ h => h, .refl _⟩
theorem SP.trans {a b : Nat} {A B C : List UInt8} (h : SP a b A B) (k : SP a b B C) : SP a b A C :=
  ⟨k.len.trans h.len, fun i hi => (k.out i hi).trans (h.out i hi), fun P hP => k.inn P (h.inn P hP), k.perm.trans h.perm⟩
theorem SP.mono {a b a' b' : Nat} {L L' : List UInt8} (h : SP a' b' L L') (ha : a ≤ a') (hb : b' ≤ b) : SP a b L L' :=
  ⟨h.len, fun i hi => h.out i (by omega), fun P hP i h1 h2 => by
    by_cases hi : a' ≤ i ∧ i < b'
    · exact h.inn P (fun j h3 h4 => hP j (by omega) (by omega)) i hi.1 hi.2
    · rw [h.out i (by omega)]; exact hP i h1 h2, h.perm⟩
theorem SP.swp {a b : Nat} {L : List UInt8} {i j : Nat} (hb : b ≤ L.length) (h1 : a ≤ i) (h2 : i < b) (h3 : a ≤ j) (h4 : j < b) : SP a b L (swp L i j) := by
  refine ⟨swp_len _ _ _, fun k hk => ?_, fun P hP k h5 h6 => ?_, swp_perm (by omega) (by omega)⟩
  · rw [K_swp (by omega) (by omega), if_neg (by omega), if_neg (by omega)]
  · rw [K_swp (by omega) (by omega)]
    split
    · exact hP i h1 h2
    · split
      · exact hP j h3 h4
      · exact hP k h5 h6
/-- In order between the places a and b. -/
def SS (a b : Nat) (L : List UInt8) : Prop := ∀ i j, a ≤ i → i < j → j < b → K L i ≤ K L j
theorem SS.one {a : Nat} (L : List UInt8) {b : Nat} (h : b ≤ a + 1) : SS a b L := fun i j h1 h2 h3 => by omega
theorem SS.le {a b : Nat} {L : List UInt8} (h : SS a b L) {i j : Nat} (h1 : a ≤ i) (h2 : i ≤ j) (h3 : j < b) : K L i ≤ K L j := by
  by_cases e : i = j
  · subst e; exact Nat.le_refl _
  · exact h i j h1 (by omega) h3
theorem SS.same {a b : Nat} {L L' : List UInt8} (h : SS a b L) (he : ∀ i, a ≤ i → i < b → K L' i = K L i) : SS a b L' := fun i j h1 h2 h3 => by
  rw [he i h1 (by omega), he j (by omega) h3]; exact h i j h1 h2 h3
/-- Neighbours in order: all in order. -/
theorem SS.steps {a b : Nat} {L : List UInt8} (h : ∀ i, a ≤ i → i + 1 < b → K L i ≤ K L (i + 1)) : SS a b L := by
  intro i j h1 h2 h3
  induction j with
  | zero => omega
  | succ j ih =>
    by_cases e : i = j
    · subst e; exact h i h1 h3
    · exact Nat.le_trans (ih (by omega) (by omega)) (h j (by omega) h3)
/-- Insertion: the places a .. i are in order but for the one at j, which is less than what stands behind it. -/
structure Ins (a i j : Nat) (L : List UInt8) : Prop where
  rest : ∀ x y, a ≤ x → x < y → y ≤ i → x ≠ j → y ≠ j → K L x ≤ K L y
  up : ∀ y, j < y → y ≤ i → K L j ≤ K L y
theorem Ins.start {a i : Nat} {L : List UInt8} (h : SS a i L) : Ins a i i L :=
  ⟨fun x y h1 h2 h3 _ h5 => h x y h1 h2 (by omega), fun y h1 h2 => by omega⟩
theorem Ins.done {a i j : Nat} {L : List UInt8} (h : Ins a i j L) (ha : a ≤ j) (hs : j = a ∨ K L (j - 1) ≤ K L j) : SS a (i + 1) L := by
  intro x y h1 h2 h3
  by_cases e1 : x = j
  · subst e1; exact h.up y h2 (by omega)
  · by_cases e2 : y = j
    · subst e2
      rcases hs with e | e
      · omega
      · by_cases e3 : x = y - 1
        · subst e3; exact e
        · exact Nat.le_trans (h.rest x (y - 1) h1 (by omega) (by omega) e1 (by omega)) e
    · exact h.rest x y h1 h2 (by omega) e1 e2
theorem Ins.step {a i j : Nat} {L : List UInt8} (h : Ins a i j L) (ha : a < j) (hj : j ≤ i) (hi : i < L.length) (hl : K L j < K L (j - 1)) : Ins a i (j - 1) (swp L j (j - 1)) := by
  have kk := K_swp (L := L) (i := j) (j := j - 1) (by omega) (by omega)
  refine ⟨fun x y h1 h2 h3 h4 h5 => ?_, fun y h1 h2 => ?_⟩
  · rw [kk, kk, if_neg h4, if_neg h5]
    by_cases e1 : x = j
    · subst e1
      rw [if_pos rfl, if_neg (by omega)]
      exact h.rest (x - 1) y (by omega) (by omega) h3 (by omega) (by omega)
    · rw [if_neg e1]
      by_cases e2 : y = j
      · subst e2
        rw [if_pos rfl]
        exact h.rest x (y - 1) h1 (by omega) (by omega) (by omega) (by omega)
      · rw [if_neg e2]; exact h.rest x y h1 h2 h3 e1 e2
  · rw [kk, kk, if_pos rfl, if_neg (by omega)]
    by_cases e : y = j
    · rw [if_pos e]; omega
    · rw [if_neg e]; exact h.up y (by omega) h2
/-- Bytes in order that are the same but for their order are the same. -/
theorem SS.pairwise {L : List UInt8} (h : SS 0 L.length L) : L.Pairwise (fun x y => x.toNat ≤ y.toNat) := by
  rw [List.pairwise_iff_getElem]
  intro i j hi hj hij
  have := h i j (Nat.zero_le _) hij hj
  rw [K_at hi, K_at hj] at this
  exact this
theorem sorted_same {A B : List UInt8} (ha : A.Pairwise (fun x y => x.toNat ≤ y.toNat)) (hb : B.Pairwise (fun x y => x.toNat ≤ y.toNat)) (hp : A.Perm B) : A = B :=
  hp.eq_of_pairwise (fun x y _ _ h1 h2 => UInt8.toNat_inj.1 (Nat.le_antisymm h1 h2)) ha hb
end Go.Proofs.Yticejlplbibegaa

/- Merged: C36 M11 C41. -/
import Derived.Test.YticejlplbibegaaGreatDoorC21
import Derived.Test.YticejlplbibegaaGreatDoorEB
import Derived.Test.YticejlplbibegaaGreatDoorM2
import Derived.Test.YticejlplbibegaaGreatDoorCL
import Derived.Test.YticejlplbibegaaGreatDoorCA
import Derived.Test.YticejlplbibegaaGreatDoorC20
import Derived.Test.YticejlplbibegaaGreatDoorCH
/-! Contracts: impl.match with a receiver that keeps a state in blocks of its own. -/
namespace Go.Proofs.YticejlplbibegaaGreatDoor
open Go
set_option linter.unusedSimpArgs false
set_option linter.unusedVariables false

/-- Blocks that are not the receiver's stay told as they were. -/
def KeepO (O : Nat → Prop) (M M' : Mem) : Prop := ∀ b B, ¬ O b → M b = some B → M' b = some B
theorem KeepO.refl (O : Nat → Prop) (M : Mem) : KeepO O M M := fun _ _ _ h => h
theorem KeepO.trans {O : Nat → Prop} {A B C : Mem} (h : KeepO O A B) (k : KeepO O B C) : KeepO O A C := fun b x ho hx => k b x ho (h b x ho hx)
theorem Sub.keepO {O : Nat → Prop} {A B : Mem} (h : Sub A B) : KeepO O A B := fun b x _ hx => h b x hx
end Go.Proofs.YticejlplbibegaaGreatDoor
/-! Plain law: the first place of a pattern, and the values there. -/
namespace Go.Proofs.YticejlplbibegaaGreatDoor

/-- The word that values make out of a pattern. -/
def subV (p : List UInt8) (V : Vals) : List UInt8 := p.flatMap fun c => V.getD (vIdx c) []
theorem subV_nil (V : Vals) : subV [] V = [] := rfl
theorem subV_cons (c : UInt8) (p : List UInt8) (V : Vals) : subV (c :: p) V = V.getD (vIdx c) [] ++ subV p V := by simp [subV]
def occ (p : List UInt8) (k : Nat) : Prop := ∃ c ∈ p, vIdx c = k
theorem occ_nil (k : Nat) : ¬ occ [] k := by rintro ⟨c, hc, _⟩; cases hc
theorem occ_cons (c : UInt8) (p : List UInt8) (k : Nat) : occ (c :: p) k ↔ vIdx c = k ∨ occ p k := by
  unfold occ
  simp
/-- The values V' go on from V over a pattern. -/
structure Goes (p : List UInt8) (V V' : Vals) : Prop where
  len : V'.length = V.length
  old : ∀ k, V.getD k [] ≠ [] → V'.getD k [] = V.getD k []
  new : ∀ k, V.getD k [] = [] → (V'.getD k [] ≠ [] ↔ occ p k)
theorem vals_ext {V V' : Vals} (hl : V'.length = V.length) (h : ∀ k, V'.getD k [] = V.getD k []) : V' = V := by
  refine List.ext_getElem hl fun i h1 h2 => ?_
  have := h i
  rw [List.getD_eq_getElem?_getD, List.getD_eq_getElem?_getD, List.getElem?_eq_getElem h1, List.getElem?_eq_getElem h2] at this
  exact this
theorem getD_set (V : Vals) {k : Nat} (hk : k < V.length) (x : List UInt8) (j : Nat) : (V.set k x).getD j [] = if j = k then x else V.getD j [] := by
  rw [List.getD_eq_getElem?_getD, List.getD_eq_getElem?_getD, List.getElem?_set]
  by_cases h : j = k
  · subst h; simp [hk]
  · rw [if_neg (Ne.symm h), if_neg h]
theorem goes_nil {V V' : Vals} : Goes [] V V' ↔ V' = V := by
  constructor
  · intro h
    refine vals_ext h.len fun k => ?_
    by_cases hk : V.getD k [] = []
    · rw [hk]
      have := h.new k hk
      by_cases hv : V'.getD k [] = []
      · exact hv
      · exact absurd (this.1 hv) (occ_nil k)
    · exact h.old k hk
  · rintro rfl
    exact ⟨rfl, fun _ _ => rfl, fun k hk => ⟨fun h => absurd hk h, fun h => absurd h (occ_nil k)⟩⟩
theorem goes_new {c : UInt8} {p : List UInt8} {V V' : Vals} {x : List UInt8} (hk : vIdx c < V.length) (h0 : V.getD (vIdx c) [] = []) (hx : x ≠ []) : Goes p (V.set (vIdx c) x) V' ↔ Goes (c :: p) V V' ∧ V'.getD (vIdx c) [] = x := by
  have hg := getD_set V hk x
  constructor
  · intro h
    have hkk : V'.getD (vIdx c) [] = x := by
      have := h.old (vIdx c) (by rw [hg, if_pos rfl]; exact hx)
      rw [this, hg, if_pos rfl]
    refine ⟨⟨by rw [h.len, List.length_set], fun j hj => ?_, fun j hj => ?_⟩, hkk⟩
    · have hne : j ≠ vIdx c := by rintro rfl; exact hj h0
      have := h.old j (by rw [hg, if_neg hne]; exact hj)
      rw [this, hg, if_neg hne]
    · rw [occ_cons]
      by_cases e : j = vIdx c
      · subst e
        rw [hkk]
        exact ⟨fun _ => .inl rfl, fun _ => hx⟩
      · have := h.new j (by rw [hg, if_neg e]; exact hj)
        rw [this]
        exact ⟨.inr, fun h => h.resolve_left (Ne.symm e)⟩
  · rintro ⟨h, hkk⟩
    refine ⟨by rw [h.len, List.length_set], fun j hj => ?_, fun j hj => ?_⟩
    · rw [hg] at hj ⊢
      by_cases e : j = vIdx c
      · rw [if_pos e, e, hkk]
      · rw [if_neg e] at hj ⊢
        exact h.old j hj
    · rw [hg] at hj
      by_cases e : j = vIdx c
      · rw [if_pos e] at hj; exact absurd hj hx
      · rw [if_neg e] at hj
        have := h.new j hj
        rw [occ_cons] at this
        rw [this]
        exact ⟨fun h => h.resolve_left (Ne.symm e), .inr⟩
theorem goes_old {c : UInt8} {p : List UInt8} {V V' : Vals} (h0 : V.getD (vIdx c) [] ≠ []) : Goes p V V' ↔ Goes (c :: p) V V' := by
  constructor
  · intro h
    refine ⟨h.len, h.old, fun j hj => ?_⟩
    rw [h.new j hj, occ_cons]
    refine ⟨.inr, fun h => h.resolve_left ?_⟩
    rintro rfl; exact h0 hj
  · intro h
    refine ⟨h.len, h.old, fun j hj => ?_⟩
    rw [h.new j hj, occ_cons]
    refine ⟨fun h => h.resolve_left ?_, .inr⟩
    rintro rfl; exact h0 hj
theorem take_prefix {x : List UInt8} {w : List UInt8} (h : x <+: w) : w.take x.length = x := (List.prefix_iff_eq_take.1 h).symm
theorem prefix_split {x y w : List UInt8} : x ++ y <+: w ↔ x <+: w ∧ y <+: w.drop x.length := by
  constructor
  · rintro ⟨z, rfl⟩
    refine ⟨⟨y ++ z, by rw [List.append_assoc]⟩, ⟨z, ?_⟩⟩
    rw [List.append_assoc, List.drop_left]
  · rintro ⟨⟨z, rfl⟩, ⟨u, hu⟩⟩
    rw [List.drop_left] at hu
    exact ⟨u, by rw [← hu, List.append_assoc]⟩
theorem sols_mem (w : List UInt8) : ∀ (p : List UInt8) (V : Vals) (t : Nat), (∀ c ∈ p, vIdx c < V.length) → t ≤ w.length → ∀ V' t', (V', t') ∈ sols w p V t ↔ Goes p V V' ∧ t' = t + (subV p V').length ∧ subV p V' <+: w.drop t
  | [], V, t, _, ht, V', t' => by
    unfold sols
    rw [List.mem_singleton, goes_nil, Prod.mk.injEq, subV_nil]
    constructor
    · rintro ⟨rfl, rfl⟩; exact ⟨rfl, rfl, List.nil_prefix⟩
    · rintro ⟨rfl, h, _⟩; exact ⟨rfl, h⟩
  | c :: p, V, t, hp, ht, V', t' => by
    have hk := hp c List.mem_cons_self
    have hp' : ∀ d ∈ p, vIdx d < V.length := fun d hd => hp d (List.mem_cons_of_mem _ hd)
    have hdl : (w.drop t).length = w.length - t := List.length_drop
    by_cases h0 : V.getD (vIdx c) [] = []
    · rw [sols_new h0]
      unfold solsN
      rw [List.mem_flatMap]
      constructor
      · rintro ⟨n, hn, hm⟩
        have hn := List.mem_range.1 hn
        rw [sols_mem w p _ _ (by simpa using hp') (by omega)] at hm
        obtain ⟨h1, h2, h3⟩ := hm
        have hxl : ((w.drop t).take (n + 1)).length = n + 1 := by rw [List.length_take]; omega
        have hx : (w.drop t).take (n + 1) ≠ [] := by intro e; rw [e] at hxl; simp at hxl
        obtain ⟨h4, h5⟩ := (goes_new hk h0 hx).1 h1
        refine ⟨h4, ?_, ?_⟩
        · rw [subV_cons, h5, List.length_append, hxl, h2]; omega
        · rw [subV_cons, h5, prefix_split, hxl, List.drop_drop]
          exact ⟨List.take_prefix _ _, h3⟩
      · rintro ⟨h1, h2, h3⟩
        rw [subV_cons, prefix_split, List.drop_drop] at h3
        have hx : V'.getD (vIdx c) [] ≠ [] := (h1.new _ h0).2 ((occ_cons _ _ _).2 (.inl rfl))
        have hxt := take_prefix h3.1
        have hle := h3.1.length_le
        have hpos : 1 ≤ (V'.getD (vIdx c) []).length := by
          cases e : V'.getD (vIdx c) [] with
          | nil => exact absurd e hx
          | cons a l => simp
        rw [subV_cons, List.length_append] at h2
        obtain ⟨x, hxe⟩ : ∃ x, V'.getD (vIdx c) [] = x := ⟨_, rfl⟩
        rw [hxe] at hx hxt hle hpos h2 h3
        refine ⟨x.length - 1, List.mem_range.2 (by omega), ?_⟩
        rw [show x.length - 1 + 1 = x.length by omega, hxt, sols_mem w p _ _ (by simpa using hp') (by omega)]
        exact ⟨(goes_new hk h0 hx).2 ⟨h1, hxe⟩, by omega, h3.2⟩
    · rw [sols_old h0, goes_old (V' := V') h0 |>.symm, subV_cons]
      by_cases hq : (V.getD (vIdx c) []).isPrefixOf (w.drop t) = true
      · rw [if_pos hq]
        have hq' := List.isPrefixOf_iff_prefix.1 hq
        have hle := hq'.length_le
        rw [sols_mem w p _ _ hp' (by omega)]
        constructor
        · rintro ⟨h1, h2, h3⟩
          have := h1.old _ h0
          rw [this, prefix_split, List.drop_drop]
          exact ⟨h1, by rw [List.length_append]; omega, hq', h3⟩
        · rintro ⟨h1, h2, h3⟩
          have := h1.old _ h0
          rw [this, prefix_split, List.drop_drop] at h3
          rw [this, List.length_append] at h2
          exact ⟨h1, by omega, h3.2⟩
      · rw [if_neg hq]
        constructor
        · intro h; cases h
        · rintro ⟨h1, h2, h3⟩
          have := h1.old _ h0
          rw [this, prefix_split] at h3
          exact absurd (List.isPrefixOf_iff_prefix.2 h3.1) hq
def lenV (V : Vals) : List Nat := V.map List.length
theorem lenV_getD (V : Vals) (k : Nat) : (lenV V).getD k 0 = (V.getD k []).length := by
  unfold lenV
  rw [List.getD_eq_getElem?_getD, List.getD_eq_getElem?_getD, List.getElem?_map]
  cases V[k]? <;> rfl
/-- Lexicographic order. -/
def lexLt : List Nat → List Nat → Bool
  | _, [] => false
  | [], _ :: _ => true
  | a :: l, b :: m => decide (a < b) || (a == b && lexLt l m)
theorem lex_irr : ∀ l, lexLt l l = false
  | [] => rfl
  | a :: l => by simp [lexLt, lex_irr l]
theorem lex_trans : ∀ (a b c : List Nat), lexLt a b = true → lexLt b c = true → lexLt a c = true
  | _, _, [], _, h => by cases ‹List Nat› <;> simp [lexLt] at h
  | _, [], _ :: _, h, _ => by cases ‹List Nat› <;> simp [lexLt] at h
  | [], _ :: _, _ :: _, _, _ => rfl
  | a :: l, b :: m, c :: n, h, k => by
    simp only [lexLt, Bool.or_eq_true, Bool.and_eq_true, decide_eq_true_eq, beq_iff_eq] at h k ⊢
    rcases h with h | ⟨rfl, h⟩
    · rcases k with k | ⟨rfl, k⟩
      · exact .inl (by omega)
      · exact .inl h
    · rcases k with k | ⟨rfl, k⟩
      · exact .inl k
      · exact .inr ⟨rfl, lex_trans l m n h k⟩
theorem lex_total : ∀ (a b : List Nat), a.length = b.length → lexLt a b = false → lexLt b a = false → a = b
  | [], [], _, _, _ => rfl
  | [], _ :: _, h, _, _ => by simp at h
  | _ :: _, [], h, _, _ => by simp at h
  | a :: l, b :: m, hl, h, k => by
    simp only [lexLt, Bool.or_eq_false_iff, decide_eq_false_iff_not] at h k
    have e : a = b := by omega
    subst e
    simp at h k hl
    rw [lex_total l m hl h k]
theorem lex_co : ∀ (a c : List Nat), lexLt a c = true → ∀ b, lexLt a b = true ∨ lexLt b c = true
  | _, [], h, _ => by cases ‹List Nat› <;> simp [lexLt] at h
  | [], _ :: _, _, [] => .inr rfl
  | [], _ :: _, _, _ :: _ => .inl rfl
  | _ :: _, _ :: _, _, [] => .inr rfl
  | x :: l, z :: n, h, y :: m => by
    simp only [lexLt, Bool.or_eq_true, Bool.and_eq_true, decide_eq_true_eq, beq_iff_eq] at h ⊢
    by_cases h1 : x < y
    · exact .inl (.inl h1)
    by_cases h2 : y < z
    · exact .inr (.inl h2)
    have e1 : x = y := by omega
    have e2 : y = z := by omega
    have h3 := lex_co l n (h.resolve_left (by omega)).2 m
    rcases h3 with h3 | h3
    · exact .inl (.inr ⟨e1, h3⟩)
    · exact .inr (.inr ⟨e2, h3⟩)
theorem lex_app (l a b : List Nat) : lexLt (l ++ a) (l ++ b) = lexLt a b := by
  induction l with
  | nil => rfl
  | cons x l ih => simp [lexLt, ih]
/-- An end and values before others. -/
def ltT (x y : Vals × Nat) : Bool := decide (x.2 < y.2) || (x.2 == y.2 && lexLt (lenV x.1) (lenV y.1))
theorem ltT_trans {x y z : Vals × Nat} (h : ltT x y = true) (k : ltT y z = true) : ltT x z = true := by
  unfold ltT at *
  simp only [Bool.or_eq_true, Bool.and_eq_true, decide_eq_true_eq, beq_iff_eq] at h k ⊢
  rcases h with h | ⟨h1, h2⟩
  · rcases k with k | ⟨k1, k2⟩ <;> exact .inl (by omega)
  · rcases k with k | ⟨k1, k2⟩
    · exact .inl (by omega)
    · exact .inr ⟨by omega, lex_trans _ _ _ h2 k2⟩
theorem ltT_co {x z : Vals × Nat} (h : ltT x z = true) (y : Vals × Nat) : ltT x y = true ∨ ltT y z = true := by
  unfold ltT at *
  simp only [Bool.or_eq_true, Bool.and_eq_true, decide_eq_true_eq, beq_iff_eq] at h ⊢
  by_cases h1 : x.2 < y.2
  · exact .inl (.inl h1)
  by_cases h2 : y.2 < z.2
  · exact .inr (.inl h2)
  have e1 : x.2 = y.2 := by omega
  have e2 : y.2 = z.2 := by omega
  rcases lex_co _ _ (h.resolve_left (by omega)).2 (lenV y.1) with h3 | h3
  · exact .inl (.inr ⟨e1, h3⟩)
  · exact .inr (.inr ⟨e2, h3⟩)
theorem ltT_irr (x : Vals × Nat) : ltT x x = false := by unfold ltT; simp [lex_irr]
/-- What the program's receiver keeps. -/
def stepP (s : Nat × Vals) (x : Vals × Nat) : (Nat × Vals) × Bool := (if s.1 = 0 ∨ ltT x (s.2, s.1) = true then (x.2, x.1) else s, false)
theorem stepP_no (s : Nat × Vals) (x : Vals × Nat) : (stepP s x).2 = false := rfl
def bestF (l : List (Vals × Nat)) : Nat × Vals := (runS stepP (0, V0) l).1
theorem best_run : ∀ (l : List (Vals × Nat)) (s : Nat × Vals), (∀ x ∈ l, 1 ≤ x.2) → (runS stepP s l).2 = false ∧
    ((s.1 = 0 ∧ l = [] ∧ (runS stepP s l).1 = s) ∨ (1 ≤ (runS stepP s l).1.1 ∧ (((runS stepP s l).1.2, (runS stepP s l).1.1) ∈ l ∨ (s.1 ≠ 0 ∧ (runS stepP s l).1 = s)) ∧
      (s.1 ≠ 0 → ltT (s.2, s.1) ((runS stepP s l).1.2, (runS stepP s l).1.1) = false) ∧ ∀ x ∈ l, ltT x ((runS stepP s l).1.2, (runS stepP s l).1.1) = false))
  | [], s, _ => by
    rw [runS_nil]
    refine ⟨rfl, ?_⟩
    by_cases h : s.1 = 0
    · exact .inl ⟨h, rfl, rfl⟩
    · exact .inr ⟨by simp only; omega, .inr ⟨h, rfl⟩, fun _ => ltT_irr _, fun x hx => by cases hx⟩
  | x :: l, s, hl => by
    have hx := hl x List.mem_cons_self
    have hl' : ∀ y ∈ l, 1 ≤ y.2 := fun y hy => hl y (List.mem_cons_of_mem _ hy)
    have e : runS stepP s (x :: l) = runS stepP (stepP s x).1 l := by
      conv => lhs; unfold runS
      rw [stepP_no]; rfl
    rw [e]
    obtain ⟨h1, h2⟩ := best_run l (stepP s x).1 hl'
    refine ⟨h1, ?_⟩
    by_cases hb : s.1 = 0 ∨ ltT x (s.2, s.1) = true
    · have es : (stepP s x).1 = (x.2, x.1) := by unfold stepP; rw [if_pos hb]
      rw [es] at h2 ⊢
      generalize (runS stepP (x.2, x.1) l).1 = r at *
      rcases h2 with ⟨h3, _, _⟩ | ⟨h3, h4, h5, h6⟩
      · simp only at h3; omega
      refine .inr ⟨h3, .inl ?_, ?_, ?_⟩
      · rcases h4 with h4 | ⟨_, h4⟩
        · exact List.mem_cons_of_mem _ h4
        · rw [h4]; exact List.mem_cons_self
      · intro hs
        have hxs := hb.resolve_left hs
        have := h5 (by simp only; omega)
        cases hc : ltT (s.2, s.1) (r.2, r.1) with
        | false => rfl
        | true => rw [ltT_trans hxs hc] at this; cases this
      · intro y hy
        rcases List.mem_cons.1 hy with rfl | hy
        · exact h5 (by simp only; omega)
        · exact h6 y hy
    · have es : (stepP s x).1 = s := by unfold stepP; rw [if_neg hb]
      have hs0 : s.1 ≠ 0 := fun h => hb (.inl h)
      have hxs : ltT x (s.2, s.1) = false := by
        cases hc : ltT x (s.2, s.1) with
        | false => rfl
        | true => exact absurd (.inr hc) hb
      rw [es] at h2 ⊢
      generalize (runS stepP s l).1 = r at *
      rcases h2 with ⟨h3, _, _⟩ | ⟨h3, h4, h5, h6⟩
      · exact absurd h3 hs0
      refine .inr ⟨h3, ?_, h5, ?_⟩
      · rcases h4 with h4 | h4
        · exact .inl (List.mem_cons_of_mem _ h4)
        · exact .inr h4
      · intro y hy
        rcases List.mem_cons.1 hy with rfl | hy
        · cases hc : ltT y (r.2, r.1) with
          | false => rfl
          | true =>
            rcases ltT_co hc (s.2, s.1) with h | h
            · rw [hxs] at h; cases h
            · rw [h5 hs0] at h; cases h
        · exact h6 y hy
/-- Values of given lengths: one letter of the pattern more. -/
def gvS (w : List UInt8) (ls : List Nat) (s : Option (Vals × Nat)) (c : UInt8) : Option (Vals × Nat) :=
  match s with
  | none => none
  | some (V, t) => if t + ls.getD (vIdx c) 0 ≤ w.length ∧ (V.getD (vIdx c) [] = [] ∨ V.getD (vIdx c) [] = (w.drop t).take (ls.getD (vIdx c) 0)) then some (V.set (vIdx c) ((w.drop t).take (ls.getD (vIdx c) 0)), t + ls.getD (vIdx c) 0) else none
def gvF (w : List UInt8) (ls : List Nat) (p : List UInt8) (V : Vals) (t : Nat) : Option (Vals × Nat) := p.foldl (gvS w ls) (some (V, t))
theorem gvS_some (w : List UInt8) (ls : List Nat) (V : Vals) (t : Nat) (c : UInt8) : gvS w ls (some (V, t)) c = if t + ls.getD (vIdx c) 0 ≤ w.length ∧ (V.getD (vIdx c) [] = [] ∨ V.getD (vIdx c) [] = (w.drop t).take (ls.getD (vIdx c) 0)) then some (V.set (vIdx c) ((w.drop t).take (ls.getD (vIdx c) 0)), t + ls.getD (vIdx c) 0) else none := rfl
theorem gv_none (w : List UInt8) (ls : List Nat) : ∀ p : List UInt8, p.foldl (gvS w ls) none = none
  | [] => rfl
  | _ :: p => gv_none w ls p
theorem set_self (V : Vals) {k : Nat} (hk : k < V.length) : V.set k (V.getD k []) = V := by
  refine vals_ext (by rw [List.length_set]) fun j => ?_
  rw [getD_set V hk]
  split
  · rename_i e; rw [e]
  · rfl
theorem gv_iff (w : List UInt8) (ls : List Nat) : ∀ (p : List UInt8) (V : Vals) (t : Nat), (∀ c ∈ p, vIdx c < V.length) → t ≤ w.length → (∀ k, occ p k → 1 ≤ ls.getD k 0) → (∀ k, V.getD k [] ≠ [] → (V.getD k []).length = ls.getD k 0) → ∀ V' t',
    gvF w ls p V t = some (V', t') ↔ Goes p V V' ∧ (∀ k, occ p k → (V'.getD k []).length = ls.getD k 0) ∧ t' = t + (subV p V').length ∧ subV p V' <+: w.drop t
  | [], V, t, _, ht, _, _, V', t' => by
    unfold gvF
    rw [List.foldl_nil, Option.some.injEq, Prod.mk.injEq, goes_nil, subV_nil]
    constructor
    · rintro ⟨rfl, rfl⟩; exact ⟨rfl, fun k hk => absurd hk (occ_nil k), rfl, List.nil_prefix⟩
    · rintro ⟨rfl, _, h, _⟩; exact ⟨rfl, h.symm⟩
  | c :: p, V, t, hp, ht, hls, hV, V', t' => by
    have hk := hp c List.mem_cons_self
    have hp' : ∀ d ∈ p, vIdx d < V.length := fun d hd => hp d (List.mem_cons_of_mem _ hd)
    have hls' : ∀ k, occ p k → 1 ≤ ls.getD k 0 := fun k hk => hls k ((occ_cons _ _ _).2 (.inr hk))
    have hl1 := hls (vIdx c) ((occ_cons _ _ _).2 (.inl rfl))
    have hdl : (w.drop t).length = w.length - t := List.length_drop
    have e : gvF w ls (c :: p) V t = p.foldl (gvS w ls) (gvS w ls (some (V, t)) c) := rfl
    rw [e, gvS_some]
    have hb := hV (vIdx c)
    obtain ⟨l, hl⟩ : ∃ l, l = ls.getD (vIdx c) 0 := ⟨_, rfl⟩
    rw [← hl] at hl1 hb ⊢
    by_cases hle : t + l ≤ w.length
    · have hxl : ((w.drop t).take l).length = l := by rw [List.length_take]; omega
      by_cases h0 : V.getD (vIdx c) [] = []
      · rw [if_pos ⟨hle, .inl h0⟩]
        have hx : (w.drop t).take l ≠ [] := by intro e; rw [e] at hxl; simp at hxl; omega
        have ih := gv_iff w ls p (V.set (vIdx c) ((w.drop t).take l)) (t + l) (by simpa using hp') hle hls' (by
          intro j hj
          rw [getD_set V hk] at hj ⊢
          by_cases ej : j = vIdx c
          · rw [if_pos ej, hxl, ej, hl]
          · rw [if_neg ej] at hj ⊢; exact hV j hj) V' t'
        unfold gvF at ih
        rw [ih, goes_new hk h0 hx, subV_cons, prefix_split]
        constructor
        · rintro ⟨⟨h1, h2⟩, h3, h4, h5⟩
          rw [h2, hxl, List.drop_drop]
          refine ⟨h1, fun j hj => ?_, by rw [List.length_append, hxl]; omega, List.take_prefix _ _, h5⟩
          rcases (occ_cons _ _ _).1 hj with rfl | hj
          · rw [h2, hxl, hl]
          · exact h3 j hj
        · rintro ⟨h1, h2, h3, h4, h5⟩
          have h6 := h2 _ ((occ_cons _ _ _).2 (.inl rfl))
          rw [← hl] at h6
          have h7 : V'.getD (vIdx c) [] = (w.drop t).take l := by rw [← h6]; exact (take_prefix h4).symm
          rw [List.length_append, h6] at h3
          rw [h6, List.drop_drop] at h5
          exact ⟨⟨h1, h7⟩, fun j hj => h2 j ((occ_cons _ _ _).2 (.inr hj)), by omega, h5⟩
      · have hbl := hb h0
        by_cases hq : V.getD (vIdx c) [] = (w.drop t).take l
        · rw [if_pos ⟨hle, .inr hq⟩, ← hq, set_self V hk]
          have ih := gv_iff w ls p V (t + l) hp' hle hls' hV V' t'
          unfold gvF at ih
          rw [ih, goes_old h0, subV_cons, prefix_split]
          constructor
          · rintro ⟨h1, h3, h4, h5⟩
            have h6 := h1.old _ h0
            rw [h6, hbl, List.drop_drop]
            refine ⟨h1, fun j hj => ?_, by rw [List.length_append, hbl]; omega, by rw [hq]; exact List.take_prefix _ _, h5⟩
            rcases (occ_cons _ _ _).1 hj with rfl | hj
            · rw [h6, hbl, hl]
            · exact h3 j hj
          · rintro ⟨h1, h2, h3, h4, h5⟩
            have h6 := h1.old _ h0
            rw [h6, List.length_append, hbl] at h3
            rw [h6, hbl, List.drop_drop] at h5
            exact ⟨h1, fun j hj => h2 j ((occ_cons _ _ _).2 (.inr hj)), by omega, h5⟩
        · rw [if_neg (by rintro ⟨_, h | h⟩; exact h0 h; exact hq h), gv_none]
          constructor
          · intro h; cases h
          · rintro ⟨h1, h2, h3, h4⟩
            have h6 := h1.old _ h0
            rw [subV_cons, prefix_split, h6] at h4
            have := take_prefix h4.1
            rw [hbl] at this
            exact absurd this.symm hq
    · rw [if_neg (by rintro ⟨h, _⟩; exact hle h), gv_none]
      constructor
      · intro h; cases h
      · rintro ⟨h1, h2, h3, h4⟩
        rw [subV_cons, prefix_split] at h4
        have h5 := h4.1.length_le
        rw [h2 _ ((occ_cons _ _ _).2 (.inl rfl)), ← hl] at h5
        omega
def cntV (p : List UInt8) (k : Nat) : Nat := p.countP fun c => vIdx c == k
def sumV (p : List UInt8) (ls : List Nat) : Nat := (p.map fun c => ls.getD (vIdx c) 0).sum
theorem cntV_zero {p : List UInt8} {k : Nat} : cntV p k = 0 ↔ ¬ occ p k := by
  unfold cntV occ
  rw [List.countP_eq_zero]
  constructor
  · rintro h ⟨c, hc, e⟩; exact h c hc (by simpa using e)
  · intro h c hc e; exact h ⟨c, hc, by simpa using e⟩
/-- The first lengths in order with which a word fits. -/
def srch (w p : List UInt8) : Nat → List Nat → Option Vals
  | 0, ls => match gvF w ls p V0 0 with
    | some (V, t) => if t = w.length then some V else none
    | none => none
  | d + 1, ls => if cntV p ls.length = 0 then srch w p d (ls ++ [0]) else (List.range ((w.length - sumV p ls) / cntV p ls.length)).findSome? fun n => srch w p d (ls ++ [n + 1])
theorem find_range {A : Type} (f : Nat → Option A) : ∀ m, match (List.range m).findSome? f with
    | some a => ∃ n, n < m ∧ f n = some a ∧ ∀ i, i < n → f i = none
    | none => ∀ i, i < m → f i = none
  | 0 => fun i hi => by omega
  | m + 1 => by
    have ih := find_range f m
    rw [List.range_succ, List.findSome?_append]
    cases h : (List.range m).findSome? f with
    | some a =>
      rw [h] at ih
      obtain ⟨n, h1, h2, h3⟩ := ih
      exact ⟨n, by omega, h2, h3⟩
    | none =>
      rw [h] at ih
      have e : List.findSome? f [m] = f m := by cases hf : f m <;> simp [List.findSome?, hf]
      rw [Option.none_or, e]
      cases hf : f m with
      | some a => exact ⟨m, by omega, hf, ih⟩
      | none =>
        intro i hi
        by_cases him : i = m
        · rw [him, hf]
        · exact ih i (by omega)
structure Fit (p w : List UInt8) (V : Vals) : Prop where
  goes : Goes p V0 V
  word : subV p V = w
theorem v0_get (k : Nat) : V0.getD k [] = [] := by
  rw [List.getD_eq_getElem?_getD]
  cases h : V0[k]? with
  | none => rfl
  | some x =>
    have := List.mem_of_getElem? h
    unfold V0 at this
    simp at this
    rw [this]; rfl
theorem Fit.on {p w : List UInt8} {V : Vals} (h : Fit p w V) (k : Nat) : 1 ≤ (lenV V).getD k 0 ↔ occ p k := by
  rw [lenV_getD, ← h.goes.new k (v0_get k)]
  cases V.getD k [] <;> simp
theorem Fit.len {p w : List UInt8} {V : Vals} (h : Fit p w V) : V.length = 3 := h.goes.len
theorem lenV_len (V : Vals) : (lenV V).length = V.length := List.length_map _
theorem getD_prefix {a b : List Nat} (h : a <+: b) {k : Nat} (hk : k < a.length) : b.getD k 0 = a.getD k 0 := by
  obtain ⟨z, rfl⟩ := h
  rw [List.getD_eq_getElem?_getD, List.getD_eq_getElem?_getD, List.getElem?_append_left hk]
theorem prefix_more {a b : List Nat} (h : a <+: b) (hl : a.length < b.length) : a ++ [b.getD a.length 0] <+: b := by
  obtain ⟨z, rfl⟩ := h
  cases z with
  | nil => simp at hl
  | cons x z =>
    refine ⟨z, ?_⟩
    rw [List.getD_eq_getElem?_getD, List.getElem?_append_right (Nat.le_refl _), Nat.sub_self]
    simp
theorem subV_len {ls : List Nat} {V : Vals} (h : ls <+: lenV V) (n : Nat) (hn : n = (lenV V).getD ls.length 0) : ∀ p : List UInt8, sumV p ls + n * cntV p ls.length ≤ (subV p V).length
  | [] => by simp [sumV, cntV]
  | c :: p => by
    have ih := subV_len h n hn p
    have e1 : sumV (c :: p) ls = ls.getD (vIdx c) 0 + sumV p ls := by simp [sumV]
    have e2 : cntV (c :: p) ls.length = cntV p ls.length + if vIdx c = ls.length then 1 else 0 := by simp [cntV, List.countP_cons]
    have e3 := lenV_getD V (vIdx c)
    rw [e1, e2, subV_cons, List.length_append, ← e3, Nat.mul_add]
    by_cases h1 : vIdx c < ls.length
    · rw [getD_prefix h h1, if_neg (by omega)]
      omega
    · have e4 : ls.getD (vIdx c) 0 = 0 := by rw [List.getD_eq_getElem?_getD, List.getElem?_eq_none (by omega)]; rfl
      rw [e4]
      by_cases h2 : vIdx c = ls.length
      · rw [if_pos h2, h2, ← hn]; omega
      · rw [if_neg h2]; omega
def SrchOk (w p : List UInt8) (ls : List Nat) : Option Vals → Prop
  | some V => Fit p w V ∧ ls <+: lenV V ∧ ∀ V2, Fit p w V2 → ls <+: lenV V2 → lexLt (lenV V2) (lenV V) = false
  | none => ∀ V2, Fit p w V2 → ls <+: lenV V2 → False
theorem srch_is (w p : List UInt8) (hp : ∀ c ∈ p, vIdx c < 3) : ∀ (d : Nat) (ls : List Nat), ls.length + d = 3 → (∀ k, k < ls.length → (1 ≤ ls.getD k 0 ↔ occ p k)) → SrchOk w p ls (srch w p d ls)
  | 0, ls, hl, hls => by
    have hls0 : ∀ k, occ p k → 1 ≤ ls.getD k 0 := by
      intro k hk
      obtain ⟨c, hc, rfl⟩ := hk
      exact (hls _ (by have := hp c hc; omega)).2 ⟨c, hc, rfl⟩
    have key := gv_iff w ls p V0 0 hp (Nat.zero_le _) hls0 (fun k hk => absurd (v0_get k) hk)
    have key2 : ∀ V2, Fit p w V2 → ls <+: lenV V2 → gvF w ls p V0 0 = some (V2, w.length) := by
      intro V2 hf hpre
      have hl2 : ls.length = (lenV V2).length := by rw [lenV_len, hf.len]; omega
      have e := hpre.eq_of_length hl2
      rw [key]
      refine ⟨hf.goes, fun k hk => ?_, ?_, ?_⟩
      · rw [e, lenV_getD]
      · rw [hf.word]; omega
      · rw [hf.word]; exact List.prefix_rfl
    unfold srch
    cases hg : gvF w ls p V0 0 with
    | none =>
      intro V2 hf hpre
      rw [key2 V2 hf hpre] at hg
      cases hg
    | some x =>
      obtain ⟨V, t⟩ := x
      simp only
      by_cases ht : t = w.length
      · rw [if_pos ht]
        obtain ⟨h1, h2, h3, h4⟩ := (key V t).1 hg
        rw [List.drop_zero] at h4
        have hw : subV p V = w := h4.eq_of_length (by omega)
        have hf : Fit p w V := ⟨h1, hw⟩
        have e : ls = lenV V := by
          refine List.ext_getElem (by rw [lenV_len, hf.len]; omega) fun k a b => ?_
          have h5 := h2 k
          have h6 := hf.on k
          have h7 := hls k a
          rw [← lenV_getD] at h5
          rw [List.getD_eq_getElem?_getD, List.getElem?_eq_getElem b] at h5 h6
          rw [List.getD_eq_getElem?_getD, List.getElem?_eq_getElem a] at h5 h7
          simp only [Option.getD_some] at h5 h6 h7
          by_cases ho : occ p k
          · exact (h5 ho).symm
          · have a1 : ¬ 1 ≤ ls[k] := fun hh => ho (h7.1 hh)
            have a2 : ¬ 1 ≤ (lenV V)[k] := fun hh => ho (h6.1 hh)
            omega
        refine ⟨hf, by rw [e]; exact List.prefix_rfl, fun V2 hf2 hpre => ?_⟩
        have : gvF w ls p V0 0 = some (V2, w.length) := key2 V2 hf2 hpre
        rw [hg, Option.some.injEq, Prod.mk.injEq] at this
        rw [this.1]; exact lex_irr _
      · rw [if_neg ht]
        intro V2 hf hpre
        rw [key2 V2 hf hpre, Option.some.injEq, Prod.mk.injEq] at hg
        exact ht hg.2.symm
  | d + 1, ls, hl, hls => by
    have hmore : ∀ n, (1 ≤ n ↔ occ p ls.length) → ∀ k, k < (ls ++ [n]).length → (1 ≤ (ls ++ [n]).getD k 0 ↔ occ p k) := by
      intro n hn k hk
      rw [List.length_append, List.length_singleton] at hk
      by_cases e : k = ls.length
      · subst e
        rw [List.getD_eq_getElem?_getD, List.getElem?_append_right (Nat.le_refl _), Nat.sub_self]
        exact hn
      · rw [List.getD_eq_getElem?_getD, List.getElem?_append_left (by omega), ← List.getD_eq_getElem?_getD]
        exact hls k (by omega)
    have hpm : ∀ V2, Fit p w V2 → ls <+: lenV V2 → ls ++ [(lenV V2).getD ls.length 0] <+: lenV V2 := fun V2 hf hpre => prefix_more hpre (by rw [lenV_len, hf.len]; omega)
    have hless : ∀ (n : Nat) (V2 : Vals), ls ++ [n] <+: lenV V2 → ls <+: lenV V2 := fun n V2 h => (List.prefix_append ls [n]).trans h
    unfold srch
    by_cases hc : cntV p ls.length = 0
    · rw [if_pos hc]
      have hno := cntV_zero.1 hc
      have ih := srch_is w p hp d (ls ++ [0]) (by rw [List.length_append, List.length_singleton]; omega) (hmore 0 ⟨fun h => by omega, fun h => absurd h hno⟩)
      have h0 : ∀ V2, Fit p w V2 → ls <+: lenV V2 → ls ++ [0] <+: lenV V2 := by
        intro V2 hf hpre
        have h1 := hpm V2 hf hpre
        have h2 := hf.on ls.length
        have : (lenV V2).getD ls.length 0 = 0 := by
          by_cases hh : 1 ≤ (lenV V2).getD ls.length 0
          · exact absurd (h2.1 hh) hno
          · omega
        rw [this] at h1
        exact h1
      cases hs : srch w p d (ls ++ [0]) with
      | none => rw [hs] at ih; exact fun V2 hf hpre => ih V2 hf (h0 V2 hf hpre)
      | some V => rw [hs] at ih; exact ⟨ih.1, hless 0 V ih.2.1, fun V2 hf hpre => ih.2.2 V2 hf (h0 V2 hf hpre)⟩
    · rw [if_neg hc]
      have hocc : occ p ls.length := by
        by_cases h : occ p ls.length
        · exact h
        · exact absurd (cntV_zero.2 h) hc
      have hcp : 0 < cntV p ls.length := Nat.pos_of_ne_zero hc
      have ih : ∀ n, SrchOk w p (ls ++ [n + 1]) (srch w p d (ls ++ [n + 1])) := fun n => srch_is w p hp d (ls ++ [n + 1]) (by rw [List.length_append, List.length_singleton]; omega) (hmore (n + 1) ⟨fun _ => hocc, fun _ => by omega⟩)
      have hb : ∀ V2, Fit p w V2 → ls <+: lenV V2 → ∃ n, (lenV V2).getD ls.length 0 = n + 1 ∧ n < (w.length - sumV p ls) / cntV p ls.length ∧ ls ++ [n + 1] <+: lenV V2 := by
        intro V2 hf hpre
        have h1 := hpm V2 hf hpre
        have h2 := (hf.on ls.length).2 hocc
        have h3 := subV_len hpre _ rfl p
        rw [hf.word] at h3
        generalize (lenV V2).getD ls.length 0 = n2 at *
        obtain ⟨n, rfl⟩ : ∃ n, n2 = n + 1 := ⟨n2 - 1, by omega⟩
        refine ⟨n, rfl, ?_, h1⟩
        have : n + 1 ≤ (w.length - sumV p ls) / cntV p ls.length := (Nat.le_div_iff_mul_le hcp).2 (by omega)
        omega
      have hfr := find_range (fun n => srch w p d (ls ++ [n + 1])) ((w.length - sumV p ls) / cntV p ls.length)
      cases hs : (List.range ((w.length - sumV p ls) / cntV p ls.length)).findSome? (fun n => srch w p d (ls ++ [n + 1])) with
      | none =>
        rw [hs] at hfr
        intro V2 hf hpre
        obtain ⟨n, _, h2, h3⟩ := hb V2 hf hpre
        have := ih n
        rw [hfr n h2] at this
        exact this V2 hf h3
      | some V =>
        rw [hs] at hfr
        obtain ⟨n, h1, h2, h3⟩ := hfr
        have hi := ih n
        rw [h2] at hi
        refine ⟨hi.1, hless _ V hi.2.1, fun V2 hf hpre => ?_⟩
        obtain ⟨n2, _, h5, h6⟩ := hb V2 hf hpre
        by_cases e1 : n2 < n
        · have := ih n2
          rw [h3 n2 e1] at this
          exact absurd h6 (fun h => this V2 hf h)
        · by_cases e2 : n2 = n
          · subst e2; exact hi.2.2 V2 hf h6
          · obtain ⟨z1, hz1⟩ := hi.2.1
            obtain ⟨z2, hz2⟩ := h6
            rw [← hz1, ← hz2, List.append_assoc, List.append_assoc, lex_app]
            simp only [List.cons_append, List.nil_append, lexLt]
            rw [decide_eq_false (by omega), Bool.false_or, beq_eq_false_iff_ne.2 (by omega), Bool.false_and]
theorem subV_same {V V2 : Vals} (hl : lenV V = lenV V2) : ∀ p : List UInt8, subV p V = subV p V2 → ∀ c ∈ p, V.getD (vIdx c) [] = V2.getD (vIdx c) []
  | [], _, c, hc => by cases hc
  | d :: p, h, c, hc => by
    rw [subV_cons, subV_cons] at h
    have e : (V.getD (vIdx d) []).length = (V2.getD (vIdx d) []).length := by rw [← lenV_getD, ← lenV_getD, hl]
    obtain ⟨h1, h2⟩ := List.append_inj h e
    rcases List.mem_cons.1 hc with rfl | hc
    · exact h1
    · exact subV_same hl p h2 c hc
theorem fit_one {p w : List UInt8} {V V2 : Vals} (h : Fit p w V) (k : Fit p w V2) (hl : lenV V = lenV V2) : V = V2 := by
  refine vals_ext (by rw [h.len, k.len]) fun j => ?_
  by_cases ho : occ p j
  · obtain ⟨c, hc, rfl⟩ := ho
    exact subV_same hl p (by rw [h.word, k.word]) c hc
  · have h1 := h.goes.new j (v0_get j)
    have h2 := k.goes.new j (v0_get j)
    have e1 : V.getD j [] = [] := by
      by_cases hh : V.getD j [] = []
      · exact hh
      · exact absurd (h1.1 hh) ho
    have e2 : V2.getD j [] = [] := by
      by_cases hh : V2.getD j [] = []
      · exact hh
      · exact absurd (h2.1 hh) ho
    rw [e1, e2]
theorem sols0 {w p : List UInt8} (hp : ∀ c ∈ p, vIdx c < 3) {V : Vals} {t : Nat} : (V, t) ∈ sols w p V0 0 ↔ Goes p V0 V ∧ t = (subV p V).length ∧ subV p V <+: w := by
  rw [sols_mem w p V0 0 hp (Nat.zero_le _), Nat.zero_add, List.drop_zero]
theorem fitsB_iff {w p : List UInt8} (hp : ∀ c ∈ p, vIdx c < 3) : fitsB w p = true ↔ ∃ V, Fit p w V := by
  have h := sols_fit w p V0 0 (Nat.zero_le _)
  rw [List.drop_zero] at h
  unfold fitsB
  rw [← h, List.any_eq_true]
  constructor
  · rintro ⟨⟨V, t⟩, hm, ht⟩
    obtain ⟨h1, h2, h3⟩ := (sols0 hp).1 hm
    simp only [beq_iff_eq] at ht
    exact ⟨V, h1, h3.eq_of_length (by omega)⟩
  · rintro ⟨V, h1, h2⟩
    exact ⟨(V, w.length), (sols0 hp).2 ⟨h1, by rw [h2], by rw [h2]; exact List.prefix_rfl⟩, by simp⟩
theorem best_is {u p : List UInt8} (hp : ∀ c ∈ p, vIdx c < 3) (hp1 : p ≠ []) : ((bestF (sols u p V0 0)).1 = 0 ∧ ∀ k, k ≤ u.length → fitsB (u.take k) p = false) ∨
    (1 ≤ (bestF (sols u p V0 0)).1 ∧ (bestF (sols u p V0 0)).1 ≤ u.length ∧ fitsB (u.take (bestF (sols u p V0 0)).1) p = true ∧ (∀ k, k < (bestF (sols u p V0 0)).1 → fitsB (u.take k) p = false) ∧ srch (u.take (bestF (sols u p V0 0)).1) p 3 [] = some (bestF (sols u p V0 0)).2) := by
  have h1 : ∀ x ∈ sols u p V0 0, 1 ≤ x.2 := by
    rintro ⟨V, t⟩ hx
    obtain ⟨a, b, _⟩ := (sols0 hp).1 hx
    simp only
    cases p with
    | nil => exact absurd rfl hp1
    | cons c p =>
      have := (a.new (vIdx c) (v0_get _)).2 ((occ_cons _ _ _).2 (.inl rfl))
      rw [b, subV_cons, List.length_append]
      cases hq : V.getD (vIdx c) [] with
      | nil => exact absurd hq this
      | cons x l => simp; omega
  have hfit : ∀ k, k ≤ u.length → (fitsB (u.take k) p = true ↔ ∃ V, (V, k) ∈ sols u p V0 0) := by
    intro k hk
    rw [fitsB_iff hp]
    have hl : (u.take k).length = k := by rw [List.length_take]; omega
    constructor
    · rintro ⟨V, h1, h2⟩
      exact ⟨V, (sols0 hp).2 ⟨h1, by rw [h2, hl], by rw [h2]; exact List.take_prefix _ _⟩⟩
    · rintro ⟨V, hm⟩
      obtain ⟨h1, h2, h3⟩ := (sols0 hp).1 hm
      exact ⟨V, h1, by rw [h2]; exact (take_prefix h3).symm⟩
  obtain ⟨_, hb⟩ := best_run (sols u p V0 0) (0, V0) h1
  unfold bestF
  generalize (runS stepP (0, V0) (sols u p V0 0)).1 = s at *
  rcases hb with ⟨_, h2, h3⟩ | ⟨h2, h3, _, h5⟩
  · left
    rw [h3]
    refine ⟨rfl, fun k hk => ?_⟩
    cases hf : fitsB (u.take k) p with
    | false => rfl
    | true =>
      obtain ⟨V, hm⟩ := (hfit k hk).1 hf
      rw [h2] at hm
      cases hm
  · right
    have hm := h3.resolve_right (fun h => h.1 rfl)
    obtain ⟨a, b, c⟩ := (sols0 hp).1 hm
    have hle : s.1 ≤ u.length := by rw [b]; exact c.length_le
    refine ⟨h2, hle, (hfit _ hle).2 ⟨_, hm⟩, fun k hk => ?_, ?_⟩
    · cases hf : fitsB (u.take k) p with
      | false => rfl
      | true =>
        obtain ⟨V, hm2⟩ := (hfit k (by omega)).1 hf
        have := h5 _ hm2
        unfold ltT at this
        simp only [Bool.or_eq_false_iff, decide_eq_false_iff_not] at this
        omega
    · have hf : Fit p (u.take s.1) s.2 := ⟨a, by rw [b]; exact (take_prefix c).symm⟩
      have ok := srch_is (u.take s.1) p hp 3 [] rfl (fun k hk => by simp at hk)
      cases hs : srch (u.take s.1) p 3 [] with
      | none => rw [hs] at ok; exact absurd List.nil_prefix (fun h => ok _ hf h)
      | some V =>
        rw [hs] at ok
        obtain ⟨o1, _, o3⟩ := ok
        have l1 := o3 _ hf List.nil_prefix
        have hl : (u.take s.1).length = s.1 := by rw [List.length_take]; omega
        have l2 := h5 (V, s.1) ((sols0 hp).2 ⟨o1.goes, by rw [o1.word, hl], by rw [o1.word]; exact List.take_prefix _ _⟩)
        unfold ltT at l2
        simp only [Bool.or_eq_false_iff, beq_self_eq_true, Bool.true_and] at l2
        rw [fit_one o1 hf (lex_total _ _ (by rw [lenV_len, lenV_len, o1.len, hf.len]) l2.2 l1)]
/-- The first place, and the values there. -/
def placeAt (w p : List UInt8) (i : Nat) : Option (Nat × Vals) := if 0 < (bestF (sols (w.drop i) p V0 0)).1 then some (i, (bestF (sols (w.drop i) p V0 0)).2) else none
def placeTo (w p : List UInt8) (n : Nat) : Option (Nat × Vals) := (List.range n).findSome? (placeAt w p)
def placeF (w p : List UInt8) : Option (Nat × Vals) := placeTo w p w.length
theorem placeTo_succ {w p : List UInt8} {n : Nat} (h : placeTo w p n = none) : placeTo w p (n + 1) = placeAt w p n := by
  unfold placeTo at *
  rw [List.range_succ, List.findSome?_append, h, Option.none_or]
  cases hf : placeAt w p n <;> simp [List.findSome?, hf]
theorem placeTo_hit {w p : List UInt8} {n m : Nat} {r : Nat × Vals} (hn : n < m) (h0 : placeTo w p n = none) (h : placeAt w p n = some r) : placeTo w p m = some r := by
  have h1 : placeTo w p (n + 1) = some r := by rw [placeTo_succ h0, h]
  obtain ⟨d, rfl⟩ : ∃ d, m = n + 1 + d := ⟨m - n - 1, by omega⟩
  unfold placeTo at *
  rw [List.range_add, List.findSome?_append, h1, Option.some_or]
end Go.Proofs.YticejlplbibegaaGreatDoor
/-! Contracts: first places of patterns, of the program. -/
namespace Go.Proofs.YticejlplbibegaaGreatDoor
open Go
set_option linter.unusedSimpArgs false
set_option linter.unusedVariables false

def cmpI (a b : Int) : Int := if a < b then -1 else if b < a then 1 else 0
def cmpL (a b : List Nat) : Int := if a = b then 0 else if lexLt a b then -1 else 1
theorem cmpL_same {pre a b : List Nat} : cmpL (pre ++ a) (pre ++ b) = cmpL a b := by
  unfold cmpL
  simp only [lex_app, List.append_right_inj]
theorem cmpL_head {x y : Nat} {a b : List Nat} (h : x ≠ y) : cmpL (x :: a) (y :: b) = cmpI x y := by
  have e : ¬ (x :: a = y :: b) := by intro e; injection e with e _; exact h e
  by_cases h1 : x < y
  · simp [cmpL, lexLt, cmpI, h, h1]
  · have h2 : y < x := by omega
    simp [cmpL, lexLt, cmpI, h, h1, h2]
theorem isNaN_does (a : Int) (M : Mem) (R : Value → Mem → Prop) (h : R (.bool false) M) : Does Tryz.prog 146 [.int .i64 a] M R := by
  refine does_fn tab_ok Tryz.func146 rfl (by kernel_rfl) (by kernel_rfl) Tryz.ntmps146 Tryz.results146 rfl ?_
  simp (disch := omega)
  exact ret_of h
theorem cmpCompare_does (a b : Int) (M : Mem) (R : Value → Mem → Prop) (h : R (.int .i64 (cmpI a b)) M) : Does Tryz.prog 108 [.int .i64 a, .int .i64 b] M R := by
  unfold cmpI at h
  refine does_fn tab_ok Tryz.func108 rfl (by kernel_rfl) (by kernel_rfl) Tryz.ntmps108 Tryz.results108 rfl ?_
  simp (disch := omega)
  refine isNaN_does a _ _ ?_
  simp (disch := omega)
  refine isNaN_does b _ _ ?_
  by_cases h1 : a < b
  · rw [if_pos h1] at h
    simp (disch := omega) [h1]
    exact ret_of h
  · rw [if_neg h1] at h
    by_cases h2 : b < a
    · rw [if_pos h2] at h
      simp (disch := omega) [h1, h2]
      exact ret_of h
    · rw [if_neg h2] at h
      simp (disch := omega) [h1, h2]
      exact ret_of h
theorem cmpOr2_does (v : Value) (x y : Int) (M : Mem) (R : Value → Mem → Prop) (hv : Rd M v (ints [x, y])) (h : R (.int .i64 (if x = 0 then y else x)) M) : Does Tryz.prog 107 [v] M R := by
  obtain ⟨a, c, rfl, ha⟩ := hv.opened
  rcases ha with h0 | ⟨b, o, rfl, ha⟩
  · simp at h0
  have g0 := ha 0 (by simp)
  have g1 := ha 1 (by simp)
  refine does_fn tab_ok Tryz.func107 rfl (by kernel_rfl) (by kernel_rfl) Tryz.ntmps107 Tryz.results107 rfl ?_
  simp (disch := omega)
  refine loop_to tab_ok [2, 5, 8, 9, 10, 11, 12, 13, 14, 15, 16] (fun i : Nat => [(8, .int .i64 i)]) (fun i M' => M' = M ∧ (i = 0 ∨ (i = 1 ∧ x = 0) ∨ (i = 2 ∧ x = 0 ∧ y = 0))) (fun i => 2 - i) 0 (by kernel_rfl) (by simp (disch := omega)) ⟨rfl, .inl rfl⟩ ?_
  rintro i M' g ⟨rfl, hi⟩
  have e0 : (ints [x, y])[0]? = some (.int .i64 x) := rfl
  have e1 : (ints [x, y])[1]? = some (.int .i64 y) := rfl
  rw [e0] at g0
  rw [e1] at g1
  rw [Nat.add_zero] at g0
  rcases hi with rfl | ⟨rfl, rfl⟩ | ⟨rfl, rfl, rfl⟩
  · by_cases hx : x = 0
    · subst hx
      simp (disch := omega) [g0]
      exact Rnd.mk' 1 (by omega) (by (repeat (first | exact km | refine kp rfl ?_ | refine km' rfl ?_))) (by simp (disch := omega)) ⟨rfl, by simp⟩
    · rw [if_neg hx] at h
      simp (disch := omega) [g0, hx]
      exact ret_of h
  · by_cases hy : y = 0
    · subst hy
      simp (disch := omega) [g1]
      exact Rnd.mk' 2 (by omega) (by (repeat (first | exact km | refine kp rfl ?_ | refine km' rfl ?_))) (by simp (disch := omega)) ⟨rfl, by simp⟩
    · rw [if_pos rfl] at h
      simp (disch := omega) [g1, hy]
      exact ret_of h
  · rw [if_pos rfl] at h
    simp (disch := omega)
    exact ret_of h
def fillV (V : Vals) : Vals := V.filter fun u => !u.isEmpty
def plI (w p : List UInt8) : Int := if isWord w && isPat p then (match placeF w p with | some x => (x.1 : Int) | none => 0) else 0
def plL (w p : List UInt8) : Vals := if isWord w && isPat p then (match placeF w p with | some x => fillV x.2 | none => []) else []
def plC (w p : List UInt8) : Int := if isWord w && isPat p then (match placeF w p with | some _ => 0 | none => 4) else 1
def LstI (i : Int) (c : Int) (xs : List Value) (M : Mem) (R : Value → Mem → Prop) : Prop := ∀ v M', Own M v xs M' → R (.tuple #[.int .i64 i, v, .int .i64 c]) M'
theorem Sub.delN {M N : Mem} {b : Nat} (h : Sub M N) (hb : M b = none) : Sub M (N.del b) := by
  intro i B hi
  have hne : i ≠ b := by rintro rfl; rw [hb] at hi; cases hi
  simp only [Mem.del, if_neg hne]
  exact h _ _ hi
theorem del_put_same {M : Mem} {b : Nat} {X : Blk} (h : M b = some X) : (M.del b).put b X = M := by
  funext i
  by_cases e : i = b
  · subst e; rw [put_same, h]
  · rw [put_ne _ _ e]; simp [Mem.del, e]
end Go.Proofs.YticejlplbibegaaGreatDoor

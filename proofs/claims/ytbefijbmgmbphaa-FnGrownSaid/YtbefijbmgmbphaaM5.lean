/- Plain law: primitive morphisms, by sets of letters as bits. -/
import Derived.Test.YtbefijbmgmbphaaM1
import Derived.Test.YtbefijbmgmbphaaC20
namespace Go.Proofs.Ytbefijbmgmbphaa
open Go
/-- The letters of a word, as bits, added to a set. -/
def bitW (acc : Nat) (l : List UInt8) : Nat := l.foldl (fun a u => a ||| 2 ^ (u.toNat - 97)) acc
theorem bitW_snoc (acc : Nat) (l : List UInt8) (u : UInt8) : bitW acc (l ++ [u]) = bitW acc l ||| 2 ^ (u.toNat - 97) := by simp [bitW]
theorem bitW_lt {m : Nat} : ∀ (l : List UInt8) (acc : Nat), acc < 2 ^ m → (∀ u ∈ l, u.toNat - 97 < m) → bitW acc l < 2 ^ m
  | [], acc, h, _ => h
  | u :: l, acc, h, hl => bitW_lt l _ (Nat.or_lt_two_pow h (Nat.pow_lt_pow_right (by omega) (hl u (List.mem_cons_self ..)))) fun v hv => hl v (List.mem_cons_of_mem _ hv)
theorem bitW_bit (c : Nat) : ∀ (l : List UInt8) (acc : Nat), (bitW acc l).testBit c = true ↔ acc.testBit c = true ∨ ∃ u ∈ l, u.toNat - 97 = c
  | [], acc => by simp [bitW]
  | u :: l, acc => by
    have ih := bitW_bit c l (acc ||| 2 ^ (u.toNat - 97))
    show (bitW (acc ||| 2 ^ (u.toNat - 97)) l).testBit c = true ↔ _
    rw [ih, Nat.testBit_or, Bool.or_eq_true, Nat.testBit_two_pow, decide_eq_true_eq]
    constructor
    · rintro ((h | h) | ⟨v, hv, h⟩)
      · exact .inl h
      · exact .inr ⟨u, List.mem_cons_self .., h⟩
      · exact .inr ⟨v, List.mem_cons_of_mem _ hv, h⟩
    · rintro (h | ⟨v, hv, h⟩)
      · exact .inl (.inl h)
      · rcases List.mem_cons.1 hv with rfl | hv
        · exact .inl (.inr h)
        · exact .inr ⟨v, hv, h⟩
/-- The letters of the images of a set's letters, the first i of them. -/
def stepTo (ws : List (List UInt8)) (s : Nat) : Nat → Nat
  | 0 => 0
  | i + 1 => if s / 2 ^ i % 2 = 1 then bitW (stepTo ws s i) (ws.getD i []) else stepTo ws s i
theorem stepTo_zero (ws : List (List UInt8)) (s : Nat) : stepTo ws s 0 = 0 := rfl
theorem stepTo_succ (ws : List (List UInt8)) (s i : Nat) : stepTo ws s (i + 1) = if s / 2 ^ i % 2 = 1 then bitW (stepTo ws s i) (ws.getD i []) else stepTo ws s i := rfl
def stepB (ws : List (List UInt8)) (s : Nat) : Nat := stepTo ws s ws.length
def iterB (ws : List (List UInt8)) : Nat → Nat → Nat
  | 0, s => s
  | k + 1, s => stepB ws (iterB ws k s)
def Ed (ws : List (List UInt8)) (i c : Nat) : Prop := ∃ u ∈ ws.getD i [], u.toNat - 97 = c
theorem let_lt {ws : List (List UInt8)} (hm : isMor ws = true) {i : Nat} (h : i < ws.length) : ∀ u ∈ ws.getD i [], u.toNat - 97 < ws.length := by
  have hw := mor_ok hm (getD_mem h)
  intro u hu
  exact (lt_of (isWord_all hw.2.1) hw.2.2 u hu).2
theorem stepTo_lt {ws : List (List UInt8)} (hm : isMor ws = true) (s : Nat) : ∀ i, i ≤ ws.length → stepTo ws s i < 2 ^ ws.length
  | 0, _ => by rw [stepTo_zero]; exact Nat.two_pow_pos _
  | i + 1, h => by
    have ih := stepTo_lt hm s i (by omega)
    rw [stepTo_succ]
    split
    · exact bitW_lt _ _ ih (let_lt hm (by omega))
    · exact ih
theorem stepTo_bit {ws : List (List UInt8)} (s c : Nat) : ∀ i, (stepTo ws s i).testBit c = true ↔ ∃ j, j < i ∧ s.testBit j = true ∧ Ed ws j c
  | 0 => by
    rw [stepTo_zero, Nat.zero_testBit]
    exact ⟨fun h => (by cases h), fun ⟨j, hj, _⟩ => absurd hj (Nat.not_lt_zero j)⟩
  | i + 1 => by
    have ih := stepTo_bit (ws := ws) s c i
    have hb : s.testBit i = decide (s / 2 ^ i % 2 = 1) := Nat.testBit_eq_decide_div_mod_eq
    rw [stepTo_succ]
    split
    · rename_i h1
      rw [bitW_bit, ih]
      constructor
      · rintro (⟨j, h2, h3, h4⟩ | h)
        · exact ⟨j, by omega, h3, h4⟩
        · exact ⟨i, by omega, by rw [hb, decide_eq_true h1], h⟩
      · rintro ⟨j, h2, h3, h4⟩
        by_cases hj : j = i
        · subst hj; exact .inr h4
        · exact .inl ⟨j, by omega, h3, h4⟩
    · rename_i h1
      rw [ih]
      constructor
      · rintro ⟨j, h2, h3, h4⟩; exact ⟨j, by omega, h3, h4⟩
      · rintro ⟨j, h2, h3, h4⟩
        by_cases hj : j = i
        · subst hj; rw [hb, decide_eq_true_eq] at h3; exact absurd h3 h1
        · exact ⟨j, by omega, h3, h4⟩
theorem iterB_lt {ws : List (List UInt8)} (hm : isMor ws = true) {i : Nat} (hi : i < ws.length) : ∀ k, iterB ws k (2 ^ i) < 2 ^ ws.length
  | 0 => Nat.pow_lt_pow_right (by omega) hi
  | k + 1 => stepTo_lt hm _ _ (Nat.le_refl _)
theorem iterB_path {ws : List (List UInt8)} (hm : isMor ws = true) {i : Nat} (hi : i < ws.length) : ∀ (k c : Nat), (iterB ws k (2 ^ i)).testBit c = true ↔ Paths.P ws.length (Ed ws) k i c
  | 0, c => by
    unfold iterB Paths.P
    rw [Nat.testBit_two_pow, decide_eq_true_eq]
  | k + 1, c => by
    unfold iterB Paths.P
    unfold stepB
    rw [stepTo_bit]
    constructor
    · rintro ⟨j, h1, h2, h3⟩; exact ⟨j, h1, (iterB_path hm hi k j).1 h2, h3⟩
    · rintro ⟨j, h1, h2, h3⟩; exact ⟨j, h1, (iterB_path hm hi k j).2 h2, h3⟩
/-- Do all letters reach all letters in k steps? -/
def fullB (ws : List (List UInt8)) (k : Nat) : Bool := (List.range ws.length).all fun i => iterB ws k (2 ^ i) == 2 ^ ws.length - 1
theorem fullB_iff {ws : List (List UInt8)} (hm : isMor ws = true) (k : Nat) : fullB ws k = true ↔ Paths.Full ws.length (Ed ws) k := by
  unfold fullB Paths.Full
  rw [List.all_eq_true]
  constructor
  · intro h i c hi hc
    have := h i (List.mem_range.2 hi)
    rw [beq_iff_eq] at this
    rw [← iterB_path hm hi, this, Nat.testBit_two_pow_sub_one]
    exact decide_eq_true hc
  · intro h i hi
    have hi := List.mem_range.1 hi
    rw [beq_iff_eq]
    apply Nat.eq_of_testBit_eq
    intro c
    rw [Nat.testBit_two_pow_sub_one]
    by_cases hc : c < ws.length
    · rw [decide_eq_true hc, iterB_path hm hi]
      exact h i c hi hc
    · rw [decide_eq_false hc]
      exact Nat.testBit_lt_two_pow (Nat.lt_of_lt_of_le (iterB_lt hm hi k) (Nat.pow_le_pow_right (by omega) (by omega)))
/-- Is there such a number of steps below n + 1? -/
def primTo (ws : List (List UInt8)) (n : Nat) : Bool := (List.range n).any fun k => fullB ws (k + 1)
theorem primTo_succ (ws : List (List UInt8)) (n : Nat) : primTo ws (n + 1) = (primTo ws n || fullB ws (n + 1)) := by simp [primTo, List.range_succ]
theorem primTo_yes {ws : List (List UInt8)} {n m : Nat} (h : n < m) (hh : fullB ws (n + 1) = true) : primTo ws m = true := by
  unfold primTo
  rw [List.any_eq_true]
  exact ⟨n, List.mem_range.2 h, hh⟩
theorem primTo_more {ws : List (List UInt8)} (hm : isMor ws = true) : primTo ws (ws.length * ws.length + 1) = primTo ws (ws.length * ws.length) := by
  have h15 := mor_len hm
  rw [primTo_succ]
  cases h : fullB ws (ws.length * ws.length + 1)
  · rw [Bool.or_false]
  · have h1 := Paths.shorter h15.1 ((fullB_iff hm _).1 h)
    have h2 := (fullB_iff hm _).2 h1
    have h3 : 1 ≤ ws.length * ws.length := Nat.mul_le_mul h15.1 h15.1
    rw [primTo_yes (n := ws.length * ws.length - 1) (by omega) (by rw [show ws.length * ws.length - 1 + 1 = ws.length * ws.length by omega]; exact h2)]
    rfl
def primB (ws : List (List UInt8)) : Bool := isMor ws && primTo ws (ws.length * ws.length)
end Go.Proofs.Ytbefijbmgmbphaa

/- Contracts: the first word without abelian powers. -/
import Derived.Test.YticejlplbibegaaGreatDoorCB
namespace Go.Proofs.YticejlplbibegaaGreatDoor
open Go
set_option linter.unusedSimpArgs false
set_option linter.unusedVariables false

/-- The letter with a number. -/
def ltr (n : Nat) : UInt8 := UInt8.ofNat (97 + n)
theorem isL_letter {n : Nat} (h : n ≤ 4) : isL (ltr n) = true := by
  unfold ltr
  have : n = 0 ∨ n = 1 ∨ n = 2 ∨ n = 3 ∨ n = 4 := by omega
  rcases this with rfl | rfl | rfl | rfl | rfl <;> decide
/-- Does a word end with an abelian power, of length at most q each? -/
def endsTo (w : List UInt8) (k q : Nat) : Bool := (List.range q).any fun m => abel w (w.length - k * (m + 1)) (m + 1) k
def endsA (w : List UInt8) (k : Nat) : Bool := endsTo w k (w.length / k)
theorem endsTo_succ (w : List UInt8) (k q : Nat) : endsTo w k (q + 1) = (endsTo w k q || abel w (w.length - k * (q + 1)) (q + 1) k) := by simp [endsTo, List.range_succ]
theorem endsTo_yes {w : List UInt8} {k q n : Nat} (hq : q < n) (h : abel w (w.length - k * (q + 1)) (q + 1) k = true) : endsTo w k n = true := by
  unfold endsTo
  rw [List.any_eq_true]
  exact ⟨q, List.mem_range.2 hq, h⟩
theorem ends_iff {w : List UInt8} {q k : Nat} (hk : 1 ≤ k) : k * (q + 1) ≤ w.length ↔ q < w.length / k := by
  rw [Nat.lt_iff_add_one_le, Nat.le_div_iff_mul_le hk, Nat.mul_comm]
theorem seg_end {w : List UInt8} {a m : Nat} (h : a + m = w.length) : w.drop a = seg w a m := by unfold seg; rw [h, List.take_length]
theorem l01Letter_does (n : Nat) (M : Mem) (R : Value → Mem → Prop) (h1 : n ≤ 4) (h : R (str [ltr n]) M) : Does Tryz.prog 125 [.int .i64 n] M R := by
  refine does_fn tab_ok Tryz.func125 rfl (by kernel_rfl) (by kernel_rfl) Tryz.ntmps125 Tryz.results125 rfl ?_
  simp (disch := omega)
  intro b hb
  simp (disch := omega)
  have e : (97 + (n : Int)).toNat = 97 + n := by omega
  unfold ltr at h
  rw [← e] at h
  exact ret_sub ((Sub.refl M).put hb _) h
theorem letterN_does (n : Nat) (M : Mem) (R : Value → Mem → Prop) (h1 : n ≤ 4) (h : R (str [ltr n]) M) : Does Tryz.prog 85 [.int .i64 n] M R :=
  letter_does n M R (by omega) (by omega) (by rw [Int.toNat_natCast]; exact h)
def stepF (f : List UInt8 → Option (List UInt8)) (w : List UInt8) (k c : Nat) : Option (List UInt8) := if endsA (w ++ [ltr c]) k then none else f (w ++ [ltr c])
def tryF (f : List UInt8 → Option (List UInt8)) (w : List UInt8) (k c : Nat) : Option (List UInt8) := (List.range c).findSome? (stepF f w k)
/-- The first word of length m that goes on w, of j letters, without abelian powers at the ends; d bounds the length to come. -/
def findA (m j k : Nat) : Nat → List UInt8 → Option (List UInt8)
  | 0, w => if w.length = m then some w else none
  | d + 1, w => if w.length = m then some w else
    tryF (findA m j k d) w k j
def optV (o : Option (List UInt8)) : Value := match o with
  | some w => .tuple #[str w, .bool true]
  | none => .tuple #[str [], .bool false]
theorem findSome_snoc {α β : Type} (l : List α) (a : α) (f : α → Option β) : (l ++ [a]).findSome? f = (l.findSome? f).or (f a) := by
  rw [List.findSome?_append]; cases List.findSome? f l <;> simp
theorem find_yes {β : Type} {f : Nat → Option β} {c j : Nat} {b : β} (hc : c < j) (h0 : (List.range c).findSome? f = none) (h : f c = some b) : (List.range j).findSome? f = some b := by
  have e : List.range j = List.range c ++ c :: (List.range' (c + 1) (j - c - 1)) := by
    rw [List.range_eq_range', List.range_eq_range', ← List.range'_succ, show j - c - 1 + 1 = j - c by omega]
    have := List.range'_append_1 (s := 0) (m := c) (n := j - c)
    rw [Nat.zero_add, show c + (j - c) = j by omega] at this
    exact this.symm
  rw [e, List.findSome?_append, h0, List.findSome?_cons, h]; rfl
theorem tryF_succ (f : List UInt8 → Option (List UInt8)) (w : List UInt8) (k c : Nat) : tryF f w k (c + 1) = (tryF f w k c).or (stepF f w k c) := by
  unfold tryF; rw [List.range_succ, findSome_snoc]
theorem tryF_yes {f : List UInt8 → Option (List UInt8)} {w x : List UInt8} {k c j : Nat} (hc : c < j) (h0 : tryF f w k c = none) (h : stepF f w k c = some x) : tryF f w k j = some x := find_yes hc h0 h
theorem tryF_zero (f : List UInt8 → Option (List UInt8)) (w : List UInt8) (k : Nat) : tryF f w k 0 = none := rfl
def inA (m j k : Int) : Bool := decide (0 ≤ m ∧ m ≤ 16) && (decide (1 ≤ j ∧ j ≤ 4) && decide (2 ≤ k ∧ k ≤ 4))
def firstA (m j k : Int) : Option (List UInt8) := findA m.toNat j.toNat k.toNat m.toNat []
def foundT : Option (List UInt8) → List UInt8
  | some w => w
  | none => []
def foundC : Option (List UInt8) → Int
  | some _ => 0
  | none => 4
def firstAT (m j k : Int) : List UInt8 := if inA m j k then foundT (firstA m j k) else []
def firstAC (m j k : Int) : Int := if inA m j k then foundC (firstA m j k) else 2
end Go.Proofs.YticejlplbibegaaGreatDoor

/- Contracts: abelian powers. -/
import Derived.Test.YtbefijbmgmbphaaC7
namespace Go.Proofs.Ytbefijbmgmbphaa
open Go
set_option linter.unusedSimpArgs false
set_option linter.unusedVariables false

def seg (w : List UInt8) (a m : Nat) : List UInt8 := (w.take (a + m)).drop a
theorem seg_len {w : List UInt8} {a m : Nat} (h : a + m ≤ w.length) : (seg w a m).length = m := by unfold seg; rw [List.length_drop, List.length_take]; omega
theorem seg_all {w : List UInt8} (h : w.all isL = true) (a m : Nat) : (seg w a m).all isL = true := by
  rw [List.all_eq_true] at *
  intro u hu
  exact h u (List.mem_of_mem_take (List.mem_of_mem_drop hu))
theorem seg_seg {w : List UInt8} {i n a m : Nat} (h : a + m ≤ n) : seg (seg w i n) a m = seg w (i + a) m := by
  unfold seg
  rw [List.take_drop, List.take_take, List.drop_drop, Nat.min_eq_left (by omega), Nat.add_assoc]
theorem seg_zero (w : List UInt8) (m : Nat) : seg w 0 m = w.take m := by simp [seg]
theorem seg_int {w : List UInt8} {a m : Nat} : (w.take ((a : Int) + m).toNat).drop a = seg w a m := by unfold seg; rw [show ((a : Int) + m).toNat = a + m by omega]
/-- Do the first j parts of a length have the counts of the first one? -/
def alikeTo (l : List UInt8) (m j : Nat) : Bool := (List.range j).all fun i => counts (seg l (i * m) m) == counts (seg l 0 m)
theorem alikeTo_succ (l : List UInt8) (m j : Nat) : alikeTo l m (j + 1) = (alikeTo l m j && (counts (seg l (j * m) m) == counts (seg l 0 m))) := by simp [alikeTo, List.range_succ]
theorem alikeTo_one (l : List UInt8) (m : Nat) : alikeTo l m 1 = true := by simp [alikeTo]
theorem alikeTo_no {l : List UInt8} {m j k : Nat} (hj : j < k) (h : (counts (seg l (j * m) m) == counts (seg l 0 m)) = false) : alikeTo l m k = false := by
  unfold alikeTo
  rw [List.all_eq_false]
  exact ⟨j, List.mem_range.2 hj, by rw [h]; simp⟩
def abel (w : List UInt8) (i m k : Nat) : Bool := alikeTo (seg w i (k * m)) m k
end Go.Proofs.Ytbefijbmgmbphaa

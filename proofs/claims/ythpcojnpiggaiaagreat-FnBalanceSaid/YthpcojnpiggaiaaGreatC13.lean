/- Contracts: morphisms: their sizes, their copies, whether they are morphisms. -/
import Derived.Test.YthpcojnpiggaiaaGreatCB
import Derived.Test.YthpcojnpiggaiaaGreatEB
namespace Go.Proofs.YthpcojnpiggaiaaGreat
open Go
set_option linter.unusedSimpArgs false
set_option linter.unusedVariables false

def fewB (l : List UInt8) (m : Nat) : Bool := l.all fun u => decide (u.toNat - 97 < m)
/-- May a word be an image, of a morphism of n letters? -/
def okW (n : Nat) (w : List UInt8) : Bool := decide (w.length ≤ 12) && (isWord w && fewB w n)
def isMor (ws : List (List UInt8)) : Bool := decide (1 ≤ ws.length ∧ ws.length ≤ 5) && ws.all (okW ws.length)
theorem few_no {l : List UInt8} {m i : Nat} (hi : i < l.length) (h : ¬ l[i].toNat - 97 < m) : fewB l m = false := by
  unfold fewB
  rw [List.all_eq_false]
  exact ⟨_, List.getElem_mem hi, by simpa using h⟩
/-- What is left of a bound behind the sizes of strings; below zero where it is too small. -/
def szS (left : Int) (ws : List (List UInt8)) : Int := left - ws.length - (ws.map List.length).sum
theorem szS_snoc (left : Int) (ws : List (List UInt8)) (w : List UInt8) : left - (ws.length : Int) - ((ws.map List.length).sum : Nat) - w.length = left - (ws.length : Int) - (((ws ++ [w]).map List.length).sum : Nat) := by
  simp; omega
def sumL (ws : List (List UInt8)) : Nat := (ws.map List.length).sum
theorem sumL_snoc (ws : List (List UInt8)) (w : List UInt8) : sumL (ws ++ [w]) = sumL ws + w.length := by simp [sumL]
theorem sumL_take (ws : List (List UInt8)) (i : Nat) : sumL (ws.take i) ≤ sumL ws := by
  have h1 : sumL (ws.take i ++ ws.drop i) = sumL (ws.take i) + sumL (ws.drop i) := by simp only [sumL, List.map_append, List.sum_append]
  rw [List.take_append_drop] at h1
  omega
theorem sumL_mem {ws : List (List UInt8)} {w : List UInt8} (h : w ∈ ws) : w.length ≤ sumL ws := by
  obtain ⟨i, hi, rfl⟩ := List.mem_iff_getElem.1 h
  have := sumL_take ws (i + 1)
  rw [take_snoc ws hi, sumL_snoc] at this
  omega
/-- The bound is kept. -/
def Small (left : Nat) (ws : List (List UInt8)) : Prop := ws.length + sumL ws ≤ left
end Go.Proofs.YthpcojnpiggaiaaGreat

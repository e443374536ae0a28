/- Plain law: periods, roots, palindromes, closures. -/
import Derived.Test.YthpcojnpiggaiaaGreatM4
import Derived.Test.YthpcojnpiggaiaaGreatC6
namespace Go.Proofs.YthpcojnpiggaiaaGreat
open Go
def perTo (w : List UInt8) (n : Nat) : List Int := ((List.range n).filter fun p => hp w (p + 1)).map fun (p : Nat) => ((p + 1 : Nat) : Int)
def perL (w : List UInt8) : List Int := perTo w w.length
theorem perTo_succ (w : List UInt8) (n : Nat) : perTo w (n + 1) = perTo w n ++ if hp w (n + 1) then [((n + 1 : Nat) : Int)] else [] := by
  unfold perTo
  rw [List.range_succ, List.filter_append, List.map_append]
  congr 1
  cases h : hp w (n + 1) <;> simp [h]
theorem perTo_len (w : List UInt8) (n : Nat) : (perTo w n).length ≤ n := by
  unfold perTo
  rw [List.length_map]
  exact Nat.le_trans (List.length_filter_le _ _) (by rw [List.length_range]; exact Nat.le_refl _)
/-- The least period. -/
def perF (w : List UInt8) : Nat := ((List.range w.length).find? fun q => hp w (q + 1)).getD 0 + 1
theorem hp_all (w : List UInt8) : hp w w.length = true := by
  unfold hp
  rw [List.drop_length, Nat.sub_self]
  rfl
theorem perF_is {w : List UInt8} {p : Nat} (h1 : 1 ≤ p) (h2 : p ≤ w.length) (h3 : hp w p = true) (h4 : ∀ q, 1 ≤ q → q < p → hp w q = false) : perF w = p := by
  unfold perF
  have : (List.range w.length).find? (fun q => hp w (q + 1)) = some (p - 1) := by
    rw [List.find?_range_eq_some]
    refine ⟨by rw [show p - 1 + 1 = p by omega]; exact h3, List.mem_range.2 (by omega), fun j hj => ?_⟩
    rw [h4 (j + 1) (by omega) (by omega)]; rfl
  rw [this]
  simp only [Option.getD_some]
  omega
def rootF (w : List UInt8) : List UInt8 := if w.length % perF w = 0 then w.take (perF w) else w
def palB (w : List UInt8) : Bool := w == w.reverse
/-- Where the longest palindrome at the end begins. -/
def endF (w : List UInt8) : Nat := ((List.range w.length).find? fun i => palB (w.drop i)).getD w.length
theorem endF_is {w : List UInt8} {i : Nat} (h1 : i ≤ w.length) (h2 : palB (w.drop i) = true) (h3 : ∀ j, j < i → palB (w.drop j) = false) : endF w = i := by
  unfold endF
  by_cases hi : i = w.length
  · have : (List.range w.length).find? (fun i => palB (w.drop i)) = none := by
      rw [List.find?_eq_none]
      intro j hj
      have := List.mem_range.1 hj
      rw [h3 j (by omega)]; simp
    rw [this, hi]; rfl
  · have : (List.range w.length).find? (fun i => palB (w.drop i)) = some i := by
      rw [List.find?_range_eq_some]
      exact ⟨h2, List.mem_range.2 (by omega), fun j hj => by rw [h3 j hj]; rfl⟩
    rw [this]; rfl
theorem endF_le (w : List UInt8) : endF w ≤ w.length := by
  unfold endF
  cases h : (List.range w.length).find? (fun i => palB (w.drop i)) with
  | none => exact Nat.le_refl _
  | some i =>
    have := List.mem_range.1 (List.mem_of_find?_eq_some h)
    simp only [Option.getD_some]
    omega
def closF (w : List UInt8) : List UInt8 := w ++ (w.take (endF w)).reverse
theorem closF_len (w : List UInt8) : (closF w).length ≤ 2 * w.length := by
  unfold closF
  rw [List.length_append, List.length_reverse, List.length_take]
  omega
def repF (w : List UInt8) (k : Nat) : List UInt8 := (List.replicate k w).flatten
def pwrT (w : List UInt8) (k : Int) : List UInt8 := if isWord w then (if 0 ≤ k ∧ k ≤ 1000 then (if (w.length : Int) * k ≤ 60 then repF w k.toNat else []) else []) else []
def pwrC (w : List UInt8) (k : Int) : Int := if isWord w then (if 0 ≤ k ∧ k ≤ 1000 then (if (w.length : Int) * k ≤ 60 then 0 else 3) else 2) else 1
def filC (w : List UInt8) : Int := if isWord w then (if w = [] then 5 else 0) else 1
def rootT (w : List UInt8) : List UInt8 := if filC w = 0 then rootF w else []
def rootK (w : List UInt8) : Int := if filC w = 0 then ((w.length / (rootF w).length : Nat) : Int) else 0
def closT (w : List UInt8) : List UInt8 := if isWord w then (if (closF w).length ≤ 60 then closF w else []) else []
def closC (w : List UInt8) : Int := if isWord w then (if (closF w).length ≤ 60 then 0 else 3) else 1
/-- All that the law asks of a word of m letters. -/
def topOk (w : List UInt8) (m : Int) : Bool :=
  (decide ((w.length : Int) = m) && isWord w) && (isWord w.reverse && perL w == perL w.reverse && ((perL w)[(perL w).length - 1]? == some m)) &&
  ((pwrC w 3 == 0) && isWord (pwrT w 3) && (perL (pwrT w 3)).contains m && (filC (pwrT w 3) == 0)) && (decide (((rootT (pwrT w 3)).length : Int) * rootK (pwrT w 3) = 3 * m) && decide ((rootK (pwrT w 3)).tmod 3 = 0)) &&
  ((closC w == 0) && isWord (closT w) && palB (closT w) && (decide (w.length ≤ (closT w).length)) && ((closT w).take w.length == w))
def names4 : List (List UInt8) := [[102, 105, 98, 111, 110, 97, 99, 99, 105], [116, 104, 117, 101], [100, 111, 117, 98, 108, 105, 110, 103], [116, 114, 105, 112, 108, 101]]
def topAll : Bool := names4.all fun l => (List.range 14).all fun j => (namedC l ((j : Int) + 1) == 0) && topOk (namedT l ((j : Int) + 1)) ((j : Int) + 1)
theorem topAll_is : topAll = true := by decide +kernel
end Go.Proofs.YthpcojnpiggaiaaGreat

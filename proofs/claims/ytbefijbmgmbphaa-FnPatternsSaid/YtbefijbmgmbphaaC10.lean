/- Contracts: lists of abelian powers, of the reference and of the program. -/
import Derived.Test.YtbefijbmgmbphaaC8
import Derived.Test.YtbefijbmgmbphaaC9
namespace Go.Proofs.Ytbefijbmgmbphaa
open Go
set_option linter.unusedSimpArgs false
set_option linter.unusedVariables false

/-- The abelian powers that begin at i, of the first q lengths. -/
def rowsAt (w : List UInt8) (k i q : Nat) : List (List Int) := ((List.range q).filter fun m => abel w i (m + 1) k).map fun (m : Nat) => [(i : Int), ((m + 1 : Nat) : Int)]
def rowsTo (w : List UInt8) (k n : Nat) : List (List Int) := (List.range n).flatMap fun i => rowsAt w k i ((w.length - i) / k)
theorem rowsAt_succ (w : List UInt8) (k i q : Nat) : rowsAt w k i (q + 1) = rowsAt w k i q ++ if abel w i (q + 1) k then [[(i : Int), ((q + 1 : Nat) : Int)]] else [] := by
  unfold rowsAt
  rw [List.range_succ, List.filter_append, List.map_append]
  congr 1
  cases h : abel w i (q + 1) k <;> simp [h]
theorem rowsTo_succ (w : List UInt8) (k n : Nat) : rowsTo w k (n + 1) = rowsTo w k n ++ rowsAt w k n ((w.length - n) / k) := by simp [rowsTo, List.range_succ]
theorem rowsAt_len (w : List UInt8) (k i q : Nat) : (rowsAt w k i q).length ≤ q ∧ sizes (rowsAt w k i q) ≤ 2 * q := by
  induction q with
  | zero => exact ⟨Nat.le_refl _, Nat.le_refl _⟩
  | succ q ih =>
    rw [rowsAt_succ]
    cases h : abel w i (q + 1) k
    · simp only [Bool.false_eq_true, if_false, List.append_nil]; omega
    · simp only [if_true, sizes_snoc, List.length_append, List.length_singleton, List.length_cons, List.length_nil]; omega
theorem rowsTo_len (w : List UInt8) (k n : Nat) : (rowsTo w k n).length ≤ n * w.length ∧ sizes (rowsTo w k n) ≤ 2 * (n * w.length) := by
  induction n with
  | zero => simp [rowsTo, sizes]
  | succ n ih =>
    have h1 := rowsAt_len w k n ((w.length - n) / k)
    have h2 : (w.length - n) / k ≤ w.length := Nat.le_trans (Nat.div_le_self _ _) (Nat.sub_le _ _)
    have h3 : ∀ A B : List (List Int), sizes (A ++ B) = sizes A + sizes B := fun A B => by simp [sizes]
    rw [rowsTo_succ, List.length_append, h3, Nat.succ_mul]
    omega
theorem fits_iff {w : List UInt8} {i q k : Nat} (hk : 1 ≤ k) (hi : i ≤ w.length) : i + k * (q + 1) ≤ w.length ↔ q < (w.length - i) / k := by
  rw [Nat.lt_iff_add_one_le, Nat.le_div_iff_mul_le hk, Nat.mul_comm]
  omega
theorem row_push {M N M' : Mem} {v : Value} {rs : List Value} {rows : List (List Int)} (h : RowsOf M rs rows N) (ho : Own N v rs M') {b : Nat} (hb : M' b = none) (r : List Int) (n c : Nat) (hn : r.length = n) (hc : n ≤ c) :
    RowsOf M (rs ++ [.slice (some ⟨b, 0, none⟩) n c]) (rows ++ [r]) (N.put b (.cells true (ints r) c)) ∧ Own (N.put b (.cells true (ints r) c)) v rs (M'.put b (.cells true (ints r) c)) := by
  subst hn
  exact ⟨h.snoc (none_of ho.sub hb) hc, ho.push hb _⟩
end Go.Proofs.Ytbefijbmgmbphaa

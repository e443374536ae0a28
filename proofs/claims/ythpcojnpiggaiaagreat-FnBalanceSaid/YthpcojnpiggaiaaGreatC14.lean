/- Contracts: words with renamed letters. -/
import Derived.Test.YthpcojnpiggaiaaGreatC12
import Derived.Test.YthpcojnpiggaiaaGreatC13
namespace Go.Proofs.YthpcojnpiggaiaaGreat
open Go
set_option linter.unusedSimpArgs false
set_option linter.unusedVariables false

def inL (x : Int) : Bool := decide (0 ≤ x ∧ x ≤ 4)
def okP (p : List Int) : Bool := decide (p.length = 5) && p.all inL
def renL (p : List Int) (u : UInt8) : UInt8 := ltr (p.getD (u.toNat - 97) 0).toNat
def ren (p : List Int) (l : List UInt8) : List UInt8 := l.map (renL p)
theorem ren_snoc (p : List Int) (l : List UInt8) (u : UInt8) : ren p (l ++ [u]) = ren p l ++ [renL p u] := by simp [ren]
theorem ren_len (p : List Int) (l : List UInt8) : (ren p l).length = l.length := by simp [ren]
def renT (l : List UInt8) (p : List Int) : List UInt8 := if isWord l then (if okP p then ren p l else []) else []
def renC (l : List UInt8) (p : List Int) : Int := if isWord l then (if okP p then 0 else 2) else 1
def onI (q : Int → Bool) : Value → Bool
  | .int _ n => q n
  | _ => false
theorem onI_int (q : Int → Bool) (n : Int) : onI q (.int .i64 n) = q n := rfl
theorem all_ints (q : Int → Bool) (zs : List Int) : (ints zs).all (onI q) = zs.all q := by
  induction zs with
  | nil => rfl
  | cons z zs ih => rw [ints_cons, List.all_cons, List.all_cons, onI_int, ih]
theorem mem_ints {zs : List Int} {x : Value} (h : x ∈ ints zs) : ∃ z ∈ zs, x = .int .i64 z := by
  obtain ⟨u, h1, h2⟩ := List.mem_map.1 h; exact ⟨u, h1, h2.symm⟩
theorem okP_get {p : List Int} (h : okP p = true) {k : Nat} (hk : k < 5) : ∃ n : Nat, n ≤ 4 ∧ p[k]? = some (n : Int) ∧ p.getD k 0 = n := by
  unfold okP at h
  rw [Bool.and_eq_true, decide_eq_true_eq] at h
  have hlt : k < p.length := by omega
  have hq := List.all_eq_true.1 h.2 _ (List.getElem_mem hlt)
  unfold inL at hq
  rw [decide_eq_true_eq] at hq
  refine ⟨p[k].toNat, by omega, ?_, ?_⟩
  · rw [List.getElem?_eq_getElem hlt]; congr 1; omega
  · rw [List.getD_eq_getElem?_getD, List.getElem?_eq_getElem hlt]; simp; omega
theorem bytes_snoc (l : List UInt8) (u : UInt8) : bytesV l ++ [.int .u8 u.toNat] = bytesV (l ++ [u]) := by simp [bytesV]
theorem flat_bytes (l : List UInt8) : ∀ v ∈ bytesV l, flatV v = true := by intro v hv; obtain ⟨u, _, rfl⟩ := mem_bytes hv; rfl
theorem ltr_nat {n : Nat} (h : n ≤ 4) : (ltr n).toNat = 97 + n := by
  have : n = 0 ∨ n = 1 ∨ n = 2 ∨ n = 3 ∨ n = 4 := by omega
  rcases this with rfl | rfl | rfl | rfl | rfl <;> decide
end Go.Proofs.YthpcojnpiggaiaaGreat

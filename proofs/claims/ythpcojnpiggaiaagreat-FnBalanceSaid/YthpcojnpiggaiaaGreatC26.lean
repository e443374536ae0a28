/- Contracts: words with squares, and the first square maker. -/
import Derived.Test.YthpcojnpiggaiaaGreatM4
import Derived.Test.YthpcojnpiggaiaaGreatC21
import Derived.Test.YthpcojnpiggaiaaGreatC20
namespace Go.Proofs.YthpcojnpiggaiaaGreat
open Go
set_option linter.unusedSimpArgs false
set_option linter.unusedVariables false

theorem hasPeriod_does (v : List UInt8) (q : Nat) (qi : Int) (hqi : qi = q) (M : Mem) (R : Value → Mem → Prop) (hl : v.length ≤ 60) (hq : q ≤ v.length) (h : R (.bool (hp v q)) M) : Does Tryz.prog 124 [str v, .int .i64 qi] M R := by
  subst hqi
  refine does_fn tab_ok Tryz.func124 rfl (by kernel_rfl) (by kernel_rfl) Tryz.ntmps124 Tryz.results124 rfl ?_
  have e : (v.length : Int) - q = ((v.length - q : Nat) : Int) := by omega
  simp (disch := omega)
  refine draw_to tab_ok (by kernel_rfl) (by kernel_rfl) (by rfl) ?_
  simp (disch := omega) [e]
  exact ret_of h
def sqTo (w : List UInt8) (n : Nat) : Bool := (List.range n).any fun m => endsSq (w.take m)
theorem sqTo_succ (w : List UInt8) (n : Nat) : sqTo w (n + 1) = (sqTo w n || endsSq (w.take n)) := by simp [sqTo, List.range_succ]
theorem sqTo_two (w : List UInt8) : sqTo w 2 = false := by
  have h : ∀ n, n < 2 → endsSq (w.take n) = false := fun n hn => by
    unfold endsSq
    rw [show (w.take n).length / 2 = 0 by rw [List.length_take]; omega]; rfl
  rw [show (2 : Nat) = 0 + 1 + 1 from rfl, sqTo_succ, sqTo_succ, h 0 (by omega), h 1 (by omega)]; rfl
theorem sqTo_yes {w : List UInt8} {n m : Nat} (h : n < m) (hh : endsSq (w.take n) = true) : sqTo w m = true := by
  unfold sqTo
  rw [List.any_eq_true]
  exact ⟨n, List.mem_range.2 h, hh⟩
theorem find_append_some {l r : List (List UInt8)} {p : List UInt8 → Bool} {u : List UInt8} (h : l.find? p = some u) : (l ++ r).find? p = some u := by rw [List.find?_append, h]; rfl
theorem find_append_none {l r : List (List UInt8)} {p : List UInt8 → Bool} (h : l.find? p = none) : (l ++ r).find? p = r.find? p := by rw [List.find?_append, h]; rfl
def sqI (ws : List (List UInt8)) (u : List UInt8) : Bool := sqIn (imgOf ws u)
def fnd (ws : List (List UInt8)) (l : List (List UInt8)) : Option (List UInt8) := l.find? (sqI ws)
theorem fnd_nil (ws : List (List UInt8)) : fnd ws [] = none := rfl
theorem fnd_one (ws : List (List UInt8)) (u : List UInt8) : fnd ws [u] = if sqI ws u then some u else none := by
  unfold fnd
  rw [List.find?_cons]
  cases sqI ws u <;> rfl
def makeT (ws : List (List UInt8)) : List UInt8 := if testC ws = 0 then (if testN ws ≤ 5 then (match makeTo ws (testN ws + 1) with | some u => u | none => []) else []) else []
def makeC (ws : List (List UInt8)) : Int := if testC ws = 0 then (if testN ws ≤ 5 then (match makeTo ws (testN ws + 1) with | some _ => 0 | none => 4) else 3) else testC ws
theorem testC_zero {ws : List (List UInt8)} (h : testC ws = 0) : isMor ws = true ∧ testN ws ≠ 0 := by
  unfold testC at h
  split at h
  · rename_i h1
    split at h
    · cases h
    · rename_i h2; exact ⟨h1, h2⟩
  · cases h
end Go.Proofs.YthpcojnpiggaiaaGreat

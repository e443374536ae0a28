/- Contracts: images of words. -/
import Derived.Test.YthpcojnpiggaiaaGreatC6
import Derived.Test.YthpcojnpiggaiaaGreatC13
namespace Go.Proofs.YthpcojnpiggaiaaGreat
open Go
set_option linter.unusedSimpArgs false
set_option linter.unusedVariables false

def codeM (ws : List (List UInt8)) (w : List UInt8) : Int := if isMor ws && isWord w then (if fewB w ws.length then 0 else 2) else 1
def codeI (ws : List (List UInt8)) (w : List UInt8) (k : Int) : Int := if isMor ws && isWord w then (if fewB w ws.length && decide (0 ≤ k ∧ k ≤ 100) then 0 else 2) else 1
theorem mor_len {ws : List (List UInt8)} (h : isMor ws = true) : 1 ≤ ws.length ∧ ws.length ≤ 5 := by
  unfold isMor at h; rw [Bool.and_eq_true, decide_eq_true_eq] at h; exact h.1
theorem mor_ok {ws : List (List UInt8)} (h : isMor ws = true) {w : List UInt8} (hw : w ∈ ws) : w.length ≤ 12 ∧ isWord w = true ∧ fewB w ws.length = true := by
  unfold isMor at h
  rw [Bool.and_eq_true] at h
  have := List.all_eq_true.1 h.2 w hw
  unfold okW at this
  simpa using this
/-- Letters that have images. -/
def Lt (ws : List (List UInt8)) (l : List UInt8) : Prop := ∀ u ∈ l, 97 ≤ u.toNat ∧ u.toNat - 97 < ws.length
theorem lt_of {ws : List (List UInt8)} {l : List UInt8} (hw : l.all isL = true) (hf : fewB l ws.length = true) : Lt ws l := by
  intro u hu
  have h1 := isL_range (List.all_eq_true.1 hw u hu)
  have h2 := List.all_eq_true.1 hf u hu
  rw [decide_eq_true_eq] at h2
  exact ⟨h1.1, h2⟩
theorem img_lt {ws : List (List UInt8)} (hm : isMor ws = true) {l : List UInt8} (h : Lt ws l) : Lt ws (imgOf ws l) := by
  intro u hu
  unfold imgOf at hu
  obtain ⟨v, hv, hu⟩ := List.mem_flatMap.1 hu
  have := mor_ok hm (getD_mem (h v hv).2)
  exact lt_of (isWord_all this.2.1) this.2.2 u hu
theorem img_len {ws : List (List UInt8)} (hm : isMor ws = true) : ∀ {l : List UInt8}, Lt ws l → (imgOf ws l).length ≤ 12 * l.length
  | [], _ => Nat.le_refl _
  | u :: l, h => by
    have ih := img_len hm (l := l) fun v hv => h v (List.mem_cons_of_mem _ hv)
    have h1 := (mor_ok hm (getD_mem (h u (List.mem_cons_self ..)).2)).1
    rw [imgOf_cons, List.length_append, List.length_cons]
    omega
theorem lt_take {ws : List (List UInt8)} {l : List UInt8} (h : Lt ws l) (i : Nat) : Lt ws (l.take i) := fun u hu => h u (List.mem_of_mem_take hu)
theorem get_keep {M N : Mem} {b i : Nat} {v : Value} (h : M.get? b i = some v) (hs : Sub M N) : N.get? b i = some v := by
  unfold Mem.get? at h ⊢
  cases hMb : M b with
  | none => rw [hMb] at h; cases h
  | some B => rw [hMb] at h; rw [hs _ _ hMb]; exact h
/-- A word's k-th image, if all images are short enough. -/
def iterW (ws : List (List UInt8)) : Nat → List UInt8 → Option (List UInt8)
  | 0, w => some w
  | k + 1, w => if 60 < (imgOf ws w).length then none else iterW ws k (imgOf ws w)
theorem iterW_zero (ws : List (List UInt8)) (w : List UInt8) : iterW ws 0 w = some w := rfl
theorem iterW_succ (ws : List (List UInt8)) (k : Nat) (w : List UInt8) : iterW ws (k + 1) w = if 60 < (imgOf ws w).length then none else iterW ws k (imgOf ws w) := rfl
def iterT (ws : List (List UInt8)) (w : List UInt8) (k : Int) : List UInt8 := if codeI ws w k = 0 then (match iterW ws k.toNat w with | some x => x | none => []) else []
def iterC (ws : List (List UInt8)) (w : List UInt8) (k : Int) : Int := if codeI ws w k = 0 then (match iterW ws k.toNat w with | some x => 0 | none => 3) else codeI ws w k
theorem codeI_zero {ws : List (List UInt8)} {w : List UInt8} {k : Int} (h : codeI ws w k = 0) : isMor ws = true ∧ isWord w = true ∧ fewB w ws.length = true ∧ 0 ≤ k ∧ k ≤ 100 := by
  unfold codeI at h
  split at h
  · rename_i h1
    split at h
    · rename_i h2
      rw [Bool.and_eq_true] at h1 h2
      rw [decide_eq_true_eq] at h2
      exact ⟨h1.1, h1.2, h2.1, h2.2.1, h2.2.2⟩
    · cases h
  · cases h
end Go.Proofs.YthpcojnpiggaiaaGreat

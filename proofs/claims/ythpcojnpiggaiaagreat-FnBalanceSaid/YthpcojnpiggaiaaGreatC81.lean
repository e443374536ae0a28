/- Contracts: factors of a length, scattered words, of both. -/
import Derived.Test.YthpcojnpiggaiaaGreatC80
namespace Go.Proofs.YthpcojnpiggaiaaGreat
open Go Go.RowKit
set_option linter.unusedSimpArgs false
set_option linter.unusedVariables false

theorem at_u81 {L : List UInt8} {j : Nat} {v : UInt8} (h : L[j]? = some v) (hj : j < L.length) : L[j] = v := by
  rw [List.getElem?_eq_getElem hj] at h
  injection h
theorem sortS0b_does (M : Mem) (R : Value → Mem → Prop) (h : R (.tuple #[]) M) : Does Tryz.prog 120 [.slice none 0 0] M R := by
  refine does_below (.tuple #[]) ⟨_, Tryz.func120, by kernel_rfl, by kernel_rfl⟩ (fun w hw => ?_) h
  refine (Tryz.slices_Sort_string_none none 0 w).mono fun e w' ⟨h1, h2⟩ => ⟨h1, by rw [h2]; exact Below.refl _ _⟩
theorem compactS0b_does (M : Mem) (R : Value → Mem → Prop) (h : R (.slice none 0 0) M) : Does Tryz.prog 121 [.slice none 0 0] M R := by
  refine does_below (.slice none 0 0) ⟨_, Tryz.func121, by kernel_rfl, by kernel_rfl⟩ (fun w hw => ?_) h
  refine (Tryz.slices_Compact_string_empty none 0 w).mono fun e w' ⟨h1, h2⟩ => ⟨h1, by rw [h2]; exact Below.refl _ _⟩
theorem sorted0b_does (M : Mem) (R : Value → Mem → Prop) (h : R (.slice none 0 0) M) : Does Tryz.prog 87 [.slice none 0 0] M R := by
  refine does_fn tab_ok Tryz.func87 rfl (by kernel_rfl) (by kernel_rfl) Tryz.ntmps87 Tryz.results87 rfl ?_
  simp (disch := omega)
  refine sortS0b_does _ _ ?_
  simp (disch := omega)
  refine compactS0b_does _ _ ?_
  simp (disch := omega)
  exact ret_of h
/-- All factors of a length, whatever the length. -/
theorem factorsL_does (w : List UInt8) (m : Nat) (M : Mem) (R : Value → Mem → Prop) (hl : w.length ≤ 60) (hm : m ≤ 1000) (h : ∀ v' M', Rd M' v' (strs (facL w m)) → Sub M M' → R v' M') : Does Tryz.prog 86 [str w, .int .i64 m] M R := by
  by_cases hmw : m ≤ w.length
  · refine factors_does w m M R hl hmw ?_
    unfold facL at h
    rw [if_pos hmw] at h
    exact h
  · unfold facL at h
    rw [if_neg hmw] at h
    refine does_fn tab_ok Tryz.func86 rfl (by kernel_rfl) (by kernel_rfl) Tryz.ntmps86 Tryz.results86 rfl ?_
    simp (disch := omega)
    refine loop_to tab_ok [5, 6, 7, 8, 9, 10, 11, 12, 13, 14, 15, 16, 17, 18, 19, 20, 21, 22, 23] (fun x : Nat => [(6, .int .i64 0), (5, .slice none 0 0)]) (fun x M' => M = M') (fun x => 0) 0 (by kernel_rfl) (by simp (disch := omega)) rfl ?_
    rintro i M' g rfl
    have hm' : ¬ (m : Int) ≤ w.length := by omega
    simp (disch := omega) [hm']
    refine sorted0b_does _ _ ?_
    simp (disch := omega)
    exact ret_of (h _ _ (Own.nil M).rd (Sub.refl _))
def fofC (w : List UInt8) (m : Int) : Int := if isWord w then (if 0 ≤ m ∧ m ≤ 60 then 0 else 2) else 1
def fofL (w : List UInt8) (m : Int) : List (List UInt8) := if isWord w then (if 0 ≤ m ∧ m ≤ 60 then facL w m.toNat else []) else []
theorem fofL_len (w : List UInt8) (m : Int) : (fofL w m).length ≤ 61 := by
  unfold fofL
  split
  · rename_i h
    split
    · exact facL_len (isWord_len h) _
    · simp
  · simp
end Go.Proofs.YthpcojnpiggaiaaGreat

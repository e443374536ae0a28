/- Contracts: common ends of the reference, turned words, powers, words compared, words of letters. -/
import Derived.Lib.Bytealg
import Derived.Test.YthpcojnpiggaiaaGreatCJ
namespace Go.Proofs.YthpcojnpiggaiaaGreat
open Go Go.RowKit
set_option linter.unusedSimpArgs false
set_option linter.unusedVariables false

def turC (w : List UInt8) (k : Int) : Int := if isWord w then (if 0 ≤ k ∧ k ≤ w.length then 0 else 2) else 1
def turT (w : List UInt8) (k : Int) : List UInt8 := if isWord w then (if 0 ≤ k ∧ k ≤ w.length then w.drop k.toNat ++ w.take k.toNat else []) else []
def cmpT (w u : List UInt8) : Int := if isWord w && isWord u then Lib.compareBytes w u else 0
def wolC (p : List Int) : Int := if decide (p.length ≤ 60) && p.all inL then 0 else 2
def wolT (p : List Int) : List UInt8 := if decide (p.length ≤ 60) && p.all inL then p.map (fun z => ltr z.toNat) else []
theorem stab_get2 (b : Nat) (v : Value) : Stab (fun M' : Mem => M'.get? b 0 = some v) := by
  intro N b' B hG hb
  have : b ≠ b' := by rintro rfl; unfold Mem.get? at hG; rw [hb] at hG; cases hG
  unfold Mem.get? at *
  rw [put_ne _ _ this]
  exact hG
theorem stab_and2 {F G : Mem → Prop} (hF : Stab F) (hG : Stab G) : Stab (fun M' => F M' ∧ G M') := fun N b B h hb => ⟨hF N b B h.1 hb, hG N b B h.2 hb⟩
theorem repF_succ (w : List UInt8) (i : Nat) : repF w (i + 1) = repF w i ++ w := by
  unfold repF
  rw [List.replicate_succ', List.flatten_append, List.flatten_singleton]
theorem repF_nilw (i : Nat) : repF [] i = [] := by
  induction i with
  | zero => rfl
  | succ i ih => rw [repF_succ, ih]; rfl
theorem repF_length (w : List UInt8) (i : Nat) : (repF w i).length = w.length * i := by
  induction i with
  | zero => rfl
  | succ i ih => rw [repF_succ, List.length_append, ih, Nat.mul_succ]
theorem l01Turned_does (w : List UInt8) (k : Nat) (M : Mem) (R : Value → Mem → Prop) (hw : w.length ≤ 1000) (hk : k ≤ w.length) (h : R (str (w.drop k ++ w.take k)) M) : Does Tryz.prog 53 [str w, .int .i64 k] M R := by
  refine does_fn tab_ok Tryz.func53 rfl (by kernel_rfl) (by kernel_rfl) Tryz.ntmps53 Tryz.results53 rfl ?_
  refine draw_to tab_ok (by kernel_rfl) (by kernel_rfl) (by rfl) ?_
  have hll : (w.drop k).length + (w.take k).length ≤ 1000 := by rw [List.length_drop, List.length_take]; omega
  simp (disch := omega)
  exact ret_of h
end Go.Proofs.YthpcojnpiggaiaaGreat

/- Contracts: sorted bytes, sorted words. -/
import Derived.Test.YthpcojnpiggaiaaGreatC110
namespace Go.Proofs.YthpcojnpiggaiaaGreat
open Go
set_option linter.unusedSimpArgs false
set_option linter.unusedVariables false

/-- Bytes in order. -/
def srtL (w : List UInt8) : List UInt8 := w.mergeSort fun x y => decide (x.toNat ≤ y.toNat)
theorem srtL_is {w L : List UInt8} (hs : SS 0 L.length L) (hp : L.Perm w) : L = srtL w := by
  refine sorted_same hs.pairwise ?_ (hp.trans (List.mergeSort_perm w _).symm)
  have := List.pairwise_mergeSort (le := fun x y : UInt8 => decide (x.toNat ≤ y.toNat)) (fun a b c h1 h2 => by
    simp only [decide_eq_true_eq] at *; omega) (fun a b => by
    simp only [Bool.or_eq_true, decide_eq_true_eq]; omega) w
  exact this.imp fun h => by simpa using h
theorem srtL_len (w : List UInt8) : (srtL w).length = w.length := (List.mergeSort_perm w _).length_eq
theorem len_bits : ∀ n : Fin 65, Lib.bitLen n.val ≤ 8 := by decide
theorem sortB_does (b c : Nat) (L : List UInt8) (M : Mem) (R : Value → Mem → Prop) (hM : M b = some (.cells true (bytesV L) c)) (hc : L.length ≤ c) (hl : L.length ≤ 64)
    (h : ∀ M', Sub (M.put b (.cells true (bytesV (srtL L)) c)) M' → R (.tuple #[]) M') : Does Tryz.prog 112 [.slice (some ⟨b, 0, none⟩) L.length c] M R := by
  have hb := len_bits ⟨L.length, by omega⟩
  simp only at hb
  have hw : IntKind.u64.wrap (L.length : Int) = (L.length : Nat) := wrap64_id (by omega) (by omega)
  refine does_fn tab_ok Tryz.func112 rfl (by kernel_rfl) (by kernel_rfl) Tryz.ntmps112 Tryz.results112 rfl ?_
  simp (disch := omega) [hw]
  refine bitsLen9_does L.length _ _ (by omega) ?_
  simp (disch := omega)
  have h0 : (0 : Int) = ((0 : Nat) : Int) := rfl
  rw [h0]
  refine pdq_does b c L.length 0 L.length _ L _ _ (by omega) hM hc hl (by omega) (Nat.le_refl _) (by omega) (fun h1 => by omega) ?_
  intro L' M' q1 q2 q3
  have e : L' = srtL L := srtL_is (by rw [q1.len]; exact q2) q1.perm
  rw [e] at q3
  simp (disch := omega)
  exact ret_of (h M' q3)
theorem sortedWord_does (w : List UInt8) (M : Mem) (R : Value → Mem → Prop) (hl : w.length ≤ 60) (h : ∀ M', Sub M M' → R (str (srtL w)) M') : Does Tryz.prog 62 [str w] M R := by
  refine does_fn tab_ok Tryz.func62 rfl (by kernel_rfl) (by kernel_rfl) Tryz.ntmps62 Tryz.results62 rfl ?_
  simp (disch := omega)
  intro b c hb hc
  rw [bytesV_length] at hc
  simp (disch := omega)
  refine sortB_does b c w _ _ (put_same _ _ _) hc (by omega) ?_
  rw [put_put]
  intro M' s1
  have hk := s1 _ _ (put_same M b (.cells true (bytesV (srtL w)) c))
  have hsl := srtL_len w
  have ht : (bytesV (srtL w)).take w.length = bytesV (srtL w) := List.take_of_length_le (by rw [bytesV_length, hsl]; omega)
  simp (disch := omega) [sub_of hk, ht]
  exact ret_of (h M' (((Sub.refl M).put hb _).trans s1))
end Go.Proofs.YthpcojnpiggaiaaGreat

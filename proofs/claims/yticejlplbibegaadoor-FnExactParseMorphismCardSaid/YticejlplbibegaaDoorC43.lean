/- Contracts: sources of numbers, and small lists of numbers, of the laws. -/
import Derived.Test.YticejlplbibegaaDoorC14
import Derived.Test.YticejlplbibegaaDoorC17
import Derived.Test.YticejlplbibegaaDoorEB
namespace Go.Proofs.YticejlplbibegaaDoor
open Go
set_option linter.unusedSimpArgs false
set_option linter.unusedVariables false

/-- A source of numbers: a struct of a list of bytes, a place in it, and a word. -/
def Src (M : Mem) (b : Nat) : Prop := ∃ (v : Value) (xs : List UInt8) (i : Nat) (h : Int), M b = some (.cells true [v, .int .i64 i, .int .u64 h] 3) ∧ Rd (M.del b) v (bytesV xs) ∧ xs.length ≤ 140737488355328 ∧ i ≤ xs.length
/-- What a draw changes: the source alone. -/
structure Dr (b : Nat) (M M' : Mem) : Prop where
  keep : ∀ D : Mem, D b = none → Sub D M → Sub D M'
  src : Src M' b
theorem Dr.refl {b : Nat} {M : Mem} (h : Src M b) : Dr b M M := ⟨fun _ _ h => h, h⟩
theorem Dr.trans {b : Nat} {A B C : Mem} (h : Dr b A B) (k : Dr b B C) : Dr b A C := ⟨fun D hD hs => k.keep D hD (h.keep D hD hs), k.src⟩
theorem del_none (M : Mem) (b : Nat) : (M.del b) b = none := by simp [Mem.del]
theorem del_subM (M : Mem) (b : Nat) : Sub (M.del b) M := by
  intro i B hi
  by_cases e : i = b
  · simp [Mem.del, e] at hi
  · simpa [Mem.del, e] using hi
theorem sub_delM {D M : Mem} {b : Nat} (hs : Sub D M) (hb : D b = none) : Sub D (M.del b) := by
  intro i B hi
  have hne : i ≠ b := by rintro rfl; rw [hb] at hi; cases hi
  simp only [Mem.del, if_neg hne]
  exact hs _ _ hi
theorem Src.told {M : Mem} {b : Nat} (h : Src M b) : M b ≠ none := by
  obtain ⟨v, xs, i, hh, hM, _⟩ := h
  rw [hM]; intro q; cases q
/-- Where the block stands and all else is still told, the source is still one. -/
theorem Src.sub {M N : Mem} {b : Nat} (h : Src M b) (hs : Sub M N) : Src N b := by
  obtain ⟨v, xs, i, hh, hM, hv, hl, hi⟩ := h
  refine ⟨v, xs, i, hh, hs _ _ hM, hv.sub ?_, hl, hi⟩
  intro j B hj
  by_cases e : j = b
  · simp [Mem.del, e] at hj
  · simp only [Mem.del, if_neg e] at hj ⊢
    exact hs _ _ hj
theorem Dr.sub {b : Nat} {M N : Mem} (h : Src M b) (hs : Sub M N) : Dr b M N := ⟨fun _ _ hD => hD.trans hs, h.sub hs⟩
/-- A source written anew. -/
theorem Src.store {M : Mem} {b : Nat} {v : Value} {xs : List UInt8} (hv : Rd (M.del b) v (bytesV xs)) (hl : xs.length ≤ 140737488355328) {i : Nat} (hi : i ≤ xs.length) (h : Int) : Dr b M (M.put b (.cells true [v, .int .i64 i, .int .u64 h] 3)) := by
  refine ⟨fun D hD hs => ?_, v, xs, i, h, put_same _ _ _, hv.sub ?_, hl, hi⟩
  · intro j B hj
    have : j ≠ b := by rintro rfl; rw [hD] at hj; cases hj
    rw [put_ne _ _ this]
    exact hs _ _ hj
  · intro j B hj
    by_cases e : j = b
    · simp [Mem.del, e] at hj
    · simp only [Mem.del, if_neg e] at hj ⊢
      rw [put_ne _ _ e]; exact hj
/-- What the mask leaves of a word. -/
theorem mask24 (a : Nat) : ∃ r : Nat, r ≤ 16777215 ∧ IntKind.i64.wrap (IntKind.u64.wrap ((a &&& 16777215 % 2 ^ IntKind.u64.bits : Nat) : Int)) = r := by
  have e : 16777215 % 2 ^ IntKind.u64.bits = 16777215 := by decide
  rw [e]
  have h : a &&& 16777215 ≤ 16777215 := Nat.and_le_right
  refine ⟨a &&& 16777215, h, ?_⟩
  generalize a &&& 16777215 = r at *
  simp [IntKind.wrap, IntKind.bits, IntKind.signed]
  omega
theorem tmod_in {a n : Int} (ha : 0 ≤ a) (hn : 1 ≤ n) : 0 ≤ a.tmod n ∧ a.tmod n < n := by
  rw [Int.tmod_eq_emod_of_nonneg ha]
  exact ⟨Int.emod_nonneg _ (by omega), Int.emod_lt_of_pos _ (by omega)⟩
theorem src_new {M : Mem} {b : Nat} {v : Value} {xs : List UInt8} (hb : M b = none) (hv : Rd M v (bytesV xs)) (hl : xs.length ≤ 140737488355328) (w : Int) : Src (M.put b (.cells true [v, .int .i64 0, .int .u64 w] 3)) b := by
  refine ⟨v, xs, 0, w, put_same _ _ _, hv.sub ?_, hl, Nat.zero_le _⟩
  exact sub_delM ((Sub.refl M).put hb _) hb
end Go.Proofs.YticejlplbibegaaDoor

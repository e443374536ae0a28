/- Contracts: words that fit patterns, and words that avoid them. -/
import Derived.Test.YthpcojnpiggaiaaGreatC16
import Derived.Test.YthpcojnpiggaiaaGreatM2
import Derived.Test.YthpcojnpiggaiaaGreatEB
namespace Go.Proofs.YthpcojnpiggaiaaGreat
open Go
set_option linter.unusedSimpArgs false
set_option linter.unusedVariables false

def isV (c : UInt8) : Bool := decide (65 ≤ c.toNat) && decide (c.toNat < 68)
theorem wrap_rune {x : Int} (h : 0 ≤ x ∧ x ≤ 127) : IntKind.i32.wrap x = x := by
  unfold IntKind.wrap
  simp [IntKind.bits, IntKind.signed]
  omega
theorem rune_ltr {i : Nat} (h : i ≤ 5) : UInt8.ofNat ((97 : Int) + i).toNat = ltr i := by
  unfold ltr
  rw [show ((97 : Int) + i).toNat = 97 + i by omega]
theorem rd_src {N : Mem} {v : Value} {xs : List Value} (h : Rd N v xs) (h1 : 1 ≤ xs.length) : srcOf N v = some xs := by
  rcases h with ⟨a, c, rfl, rfl⟩ | ⟨b, o, c, rfl, h, _⟩
  · simp at h1
  · exact h
theorem Sub.set {M N : Mem} {b : Nat} (h : Sub M N) (hb : M b = none) (B : Blk) : Sub M (N.set b B) := by
  rw [set_is]
  intro i Bi hi
  have : i ≠ b := by rintro rfl; rw [hb] at hi; cases hi
  rw [put_ne _ _ this]
  exact h _ _ hi
theorem isV_range {c : UInt8} (h : isV c = true) : 65 ≤ c.toNat ∧ c.toNat < 68 := by
  unfold isV at h
  simpa using h
def allV (p : List UInt8) : Bool := p.all isV
theorem isPat_in {p : List UInt8} (h : isPat p = true) : 1 ≤ p.length ∧ p.length ≤ 8 ∧ p.all isV = true := by
  unfold isPat at h
  rw [Bool.and_eq_true, decide_eq_true_eq] at h
  exact ⟨h.1.1, h.1.2, h.2⟩
def anyQ (q : Vals × Nat → Bool) (l : List (Vals × Nat)) : Bool := l.any q
def Small3 (V : Vals) : Prop := V.length = 3 ∧ ∀ x ∈ V, x.length ≤ 60
theorem small_set {V : Vals} (h : Small3 V) {k : Nat} {x : List UInt8} (hx : x.length ≤ 60) : Small3 (V.set k x) :=
  ⟨by rw [List.length_set]; exact h.1, fun y hy => by
    rcases List.mem_or_eq_of_mem_set hy with hy | rfl
    · exact h.2 y hy
    · exact hx⟩
theorem small_get {V : Vals} (h : Small3 V) (k : Nat) : (V.getD k []).length ≤ 60 := by
  rw [List.getD_eq_getElem?_getD]
  cases hk : V[k]? with
  | none => simp
  | some x => exact h.2 x (List.mem_of_getElem? hk)
theorem small0 : Small3 V0 := ⟨rfl, by intro x hx; unfold V0 at hx; simp at hx; subst hx; simp⟩
theorem val_get {V : Vals} (h : V.length = 3) {k : Nat} (hk : k < 3) : (strs V)[k]? = some (str (V.getD k [])) := by
  rw [strs_get, List.getElem?_eq_getElem (by omega), List.getD_eq_getElem?_getD, List.getElem?_eq_getElem (by omega)]; rfl
theorem strs_take3 {V : Vals} (h : V.length = 3) : (strs V).take 3 = strs V := List.take_of_length_le (by rw [strs_length]; omega)
theorem prefix_beq (a b : List UInt8) (h : b.length ≤ a.length) : (a.take b.length == b) = b.isPrefixOf a := by
  rw [Bool.eq_iff_iff, beq_iff_eq, List.isPrefixOf_iff_prefix, List.prefix_iff_eq_take]
  exact ⟨fun h => h.symm, fun h => h.symm⟩
theorem prefix_no {a b : List UInt8} (h : a.length < b.length) : b.isPrefixOf a = false := by
  cases hp : b.isPrefixOf a with
  | false => rfl
  | true => have := prefix_len hp; omega
def endsTo2 (w p : List UInt8) (n : Nat) : Bool := (List.range n).any fun i => fitsB (w.drop i) p
theorem endsTo2_succ (w p : List UInt8) (n : Nat) : endsTo2 w p (n + 1) = (endsTo2 w p n || fitsB (w.drop n) p) := by simp [endsTo2, List.range_succ]
theorem endsTo2_yes {w p : List UInt8} {n m : Nat} (hn : n < m) (h : fitsB (w.drop n) p = true) : endsTo2 w p m = true := by
  unfold endsTo2
  rw [List.any_eq_true]
  exact ⟨n, List.mem_range.2 hn, h⟩
def hdL (l : List (List UInt8)) : List UInt8 := l.headD []
def emL (l : List (List UInt8)) : Bool := l.isEmpty
theorem emL_iff {l : List (List UInt8)} (h : emL l = true) : l = [] := List.isEmpty_iff.1 h
def firstV (l : List (List UInt8)) : Value := .tuple #[str (hdL l), .bool (!emL l)]
theorem headD_append {l r : List (List UInt8)} (h : emL l = false) : firstV (l ++ r) = firstV l := by
  cases l with
  | nil => cases h
  | cons a l => rfl
end Go.Proofs.YthpcojnpiggaiaaGreat

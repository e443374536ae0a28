/- Contracts: least and greatest lengths of images, and the test length. -/
import Derived.Test.YthpcojnpiggaiaaGreatC18
namespace Go.Proofs.YthpcojnpiggaiaaGreat
open Go
set_option linter.unusedSimpArgs false
set_option linter.unusedVariables false

/-- The least and the greatest of some numbers. -/
def mnL : List Nat → Nat
  | [] => 0
  | a :: l => l.foldl Nat.min a
def mxL : List Nat → Nat
  | [] => 0
  | a :: l => l.foldl Nat.max a
theorem mnL_snoc {l : List Nat} (h : 1 ≤ l.length) (a : Nat) : mnL (l ++ [a]) = Nat.min (mnL l) a := by
  cases l with
  | nil => simp at h
  | cons b l => simp [mnL]
theorem mxL_snoc {l : List Nat} (h : 1 ≤ l.length) (a : Nat) : mxL (l ++ [a]) = Nat.max (mxL l) a := by
  cases l with
  | nil => simp at h
  | cons b l => simp [mxL]
theorem mnL_one (a : Nat) : mnL [a] = a := rfl
theorem mxL_one (a : Nat) : mxL [a] = a := rfl
theorem mn_int (a b : Nat) : (if b < a then (b : Int) else a) = (Nat.min a b : Nat) := by
  show _ = ((min a b : Nat) : Int)
  split <;> omega
theorem mx_int (a b : Nat) : (if a < b then (b : Int) else a) = (Nat.max a b : Nat) := by
  show _ = ((max a b : Nat) : Int)
  split <;> omega
def lens (ws : List (List UInt8)) : List Nat := ws.map List.length
theorem lens_length (ws : List (List UInt8)) : (lens ws).length = ws.length := by simp [lens]
theorem lens_snoc (ws : List (List UInt8)) (w : List UInt8) : lens (ws ++ [w]) = lens ws ++ [w.length] := by simp [lens]
theorem lens_take (ws : List (List UInt8)) (i : Nat) : lens (ws.take i) = (lens ws).take i := by simp [lens, List.map_take]
theorem foldmin_le : ∀ (l : List Nat) (a : Nat), l.foldl Nat.min a ≤ a ∧ ∀ x ∈ l, l.foldl Nat.min a ≤ x
  | [], a => ⟨Nat.le_refl a, fun _ h => by cases h⟩
  | b :: l, a => by
    obtain ⟨h1, h2⟩ := foldmin_le l (Nat.min a b)
    have e : Nat.min a b = min a b := rfl
    refine ⟨by rw [List.foldl_cons]; omega, fun x hx => ?_⟩
    rw [List.foldl_cons]
    rcases List.mem_cons.1 hx with rfl | hx
    · omega
    · exact h2 x hx
theorem foldmax_le : ∀ (l : List Nat) (a : Nat), a ≤ l.foldl Nat.max a ∧ ∀ x ∈ l, x ≤ l.foldl Nat.max a
  | [], a => ⟨Nat.le_refl a, fun _ h => by cases h⟩
  | b :: l, a => by
    obtain ⟨h1, h2⟩ := foldmax_le l (Nat.max a b)
    have e : Nat.max a b = max a b := rfl
    refine ⟨by rw [List.foldl_cons]; omega, fun x hx => ?_⟩
    rw [List.foldl_cons]
    rcases List.mem_cons.1 hx with rfl | hx
    · omega
    · exact h2 x hx
theorem mnL_le {l : List Nat} {x : Nat} (h : x ∈ l) : mnL l ≤ x := by
  cases l with
  | nil => cases h
  | cons a l =>
    rcases List.mem_cons.1 h with rfl | h
    · exact (foldmin_le l x).1
    · exact (foldmin_le l a).2 x h
theorem le_mxL {l : List Nat} {x : Nat} (h : x ∈ l) : x ≤ mxL l := by
  cases l with
  | nil => cases h
  | cons a l =>
    rcases List.mem_cons.1 h with rfl | h
    · exact (foldmax_le l x).1
    · exact (foldmax_le l a).2 x h
theorem fold_all : ∀ (l : List Nat) (a : Nat), (∀ x ∈ l, x = a) → l.foldl Nat.min a = a ∧ l.foldl Nat.max a = a
  | [], a, _ => ⟨rfl, rfl⟩
  | b :: l, a, h => by
    have hb : b = a := h b (List.mem_cons_self ..)
    subst hb
    have ih := fold_all l b fun x hx => h x (List.mem_cons_of_mem _ hx)
    have e1 : Nat.min b b = b := Nat.min_self b
    have e2 : Nat.max b b = b := Nat.max_self b
    rw [List.foldl_cons, List.foldl_cons, e1, e2]
    exact ih
theorem fold_mem : ∀ (l : List Nat) (a : Nat), l.foldl Nat.max a ∈ a :: l
  | [], a => List.mem_cons_self ..
  | b :: l, a => by
    rw [List.foldl_cons]
    have := fold_mem l (Nat.max a b)
    have e : Nat.max a b = a ∨ Nat.max a b = b := by show max a b = a ∨ max a b = b; omega
    rcases List.mem_cons.1 this with h | h
    · rw [h]; rcases e with e | e <;> rw [e] <;> simp
    · exact List.mem_cons_of_mem _ (List.mem_cons_of_mem _ h)
theorem mxL_mem {l : List Nat} (h : 1 ≤ l.length) : mxL l ∈ l := by
  cases l with
  | nil => simp at h
  | cons a l => exact fold_mem l a
def fstL (l : List Nat) : Nat := l.headD 0
def sameL (l : List Nat) : Bool := l.all fun x => x == fstL l
theorem sameL_iff {l : List Nat} (h : 1 ≤ l.length) : sameL l = (mnL l == mxL l) := by
  cases l with
  | nil => simp at h
  | cons a l =>
    rw [Bool.eq_iff_iff, beq_iff_eq]
    unfold sameL
    rw [List.all_eq_true]
    constructor
    · intro hs
      have := fold_all l a fun x hx => by have := hs x (List.mem_cons_of_mem _ hx); rw [beq_iff_eq] at this; exact this
      show l.foldl Nat.min a = l.foldl Nat.max a
      rw [this.1, this.2]
    · intro he x hx
      have h1 := mnL_le hx
      have h2 := le_mxL hx
      have h3 := mnL_le (List.mem_cons_self .. : a ∈ a :: l)
      have h4 := le_mxL (List.mem_cons_self .. : a ∈ a :: l)
      rw [beq_iff_eq]
      show x = a
      omega
def uniB (ws : List (List UInt8)) : Bool := isMor ws && (mnL (lens ws) == mxL (lens ws))
def morC (ws : List (List UInt8)) : Int := if isMor ws then 0 else 1
/-- The test length, 0 where an image is empty. -/
def testN (ws : List (List UInt8)) : Nat := if mnL (lens ws) = 0 then 0 else max 3 ((mxL (lens ws) - 3 + mnL (lens ws) - 1) / mnL (lens ws) + 1)
def testT (ws : List (List UInt8)) : Nat := if isMor ws then testN ws else 0
def testC (ws : List (List UInt8)) : Int := if isMor ws then (if testN ws = 0 then 5 else 0) else 1
theorem lens_le {ws : List (List UInt8)} (h : isMor ws = true) : mnL (lens ws) ≤ 12 ∧ mxL (lens ws) ≤ 12 ∧ mnL (lens ws) ≤ mxL (lens ws) := by
  have h1 := mor_len h
  have h2 := mxL_mem (l := lens ws) (by rw [lens_length]; omega)
  obtain ⟨w, hw, he⟩ := List.mem_map.1 h2
  have := (mor_ok h hw).1
  have := mnL_le h2
  omega
theorem natsV_snoc (l : List Nat) (a : Nat) : natsV l ++ [.int .i64 a] = natsV (l ++ [a]) := by simp [natsV]
theorem take_one {α : Type} {l : List α} (h : 0 < l.length) : l.take 1 = [l[0]] := by
  cases l with
  | nil => simp at h
  | cons a l => rfl
theorem fine0 : Fine [] := by intro w hw; cases hw
theorem rd_nil (M : Mem) : Rd M (.slice none 0 0) [] := (Own.nil M).rd
/-- The test length out of the least and the greatest length. -/
theorem test_int {a b : Nat} (ha : 1 ≤ a) (ha' : a ≤ 12) (hb : b ≤ 12) : ((((b - 3 : Nat) : Int) + a - 1).tdiv a) = (((b - 3 + a - 1) / a : Nat) : Int) := by
  have e : ((b - 3 : Nat) : Int) + a - 1 = ((b - 3 + a - 1 : Nat) : Int) := by omega
  rw [e, Int.tdiv_eq_ediv_of_nonneg (by omega)]
  push_cast; rfl
theorem test_le {a b : Nat} (hb : b ≤ 12) (ha : a ≤ 12) : (b - 3 + a - 1) / a ≤ 21 := Nat.le_trans (Nat.div_le_self _ _) (by omega)
theorem max_r (r : Nat) : (if (3 : Int) < (r : Int) + 1 then (r : Int) + 1 else 3) = (max 3 (r + 1) : Nat) := by split <;> omega
theorem max3 (b : Nat) : (if (b : Int) - 3 < 0 then (0 : Int) else (b : Int) - 3) = ((b - 3 : Nat) : Int) := by split <;> omega
end Go.Proofs.YthpcojnpiggaiaaGreat

/- Plain law: words that fit patterns, and words that avoid them. -/
import Derived.Test.YthpcojnpiggaiaaGreatC12
namespace Go.Proofs.YthpcojnpiggaiaaGreat
/-- A search over a list that keeps a state and stops at the first yes. -/
def runS {S A : Type} (step : S → A → S × Bool) : S → List A → S × Bool
  | s, [] => (s, false)
  | s, x :: l => if (step s x).2 then ((step s x).1, true) else runS step (step s x).1 l
theorem runS_nil {S A : Type} (step : S → A → S × Bool) (s : S) : runS step s [] = (s, false) := rfl
theorem runS_one {S A : Type} (step : S → A → S × Bool) (s : S) (x : A) : runS step s [x] = step s x := by
  unfold runS runS
  cases h : (step s x).2
  · simp [← h]
  · simp [← h]
theorem runS_append {S A : Type} (step : S → A → S × Bool) : ∀ (a b : List A) (s : S), runS step s (a ++ b) = if (runS step s a).2 then runS step s a else runS step (runS step s a).1 b
  | [], b, s => rfl
  | x :: a, b, s => by
    rw [List.cons_append]
    conv => lhs; unfold runS
    by_cases h : (step s x).2 = true
    · rw [if_pos h]
      have e : runS step s (x :: a) = ((step s x).1, true) := by conv => lhs; unfold runS; rw [if_pos h]
      rw [e]; rfl
    · rw [if_neg h, runS_append step a b]
      have e : runS step s (x :: a) = runS step (step s x).1 a := by conv => lhs; unfold runS; rw [if_neg h]
      rw [e]
theorem runS_stop {S A : Type} {step : S → A → S × Bool} {a b : List A} {s : S} (h : (runS step s a).2 = true) : runS step s (a ++ b) = runS step s a := by rw [runS_append, if_pos h]
theorem runS_on {S A : Type} {step : S → A → S × Bool} {a b : List A} {s : S} (h : (runS step s a).2 = false) : runS step s (a ++ b) = runS step (runS step s a).1 b := by rw [runS_append, if_neg (by rw [h]; decide)]
/-- A step without a state. -/
def say {A : Type} (q : A → Bool) : Unit → A → Unit × Bool := fun _ x => ((), q x)
theorem runS_say {A : Type} (q : A → Bool) : ∀ l : List A, runS (say q) () l = ((), l.any q)
  | [] => rfl
  | x :: l => by
    unfold runS
    rw [runS_say q l, List.any_cons]
    unfold say
    cases q x <;> rfl
abbrev Vals := List (List UInt8)
def vIdx (c : UInt8) : Nat := c.toNat - 65
/-- The values with which the beginning of a word fits a pattern from a place on, and where they end. -/
def sols (w : List UInt8) : List UInt8 → Vals → Nat → List (Vals × Nat)
  | [], V, t => [(V, t)]
  | c :: p, V, t => if V.getD (vIdx c) [] = [] then (List.range (w.length - t)).flatMap fun n => sols w p (V.set (vIdx c) ((w.drop t).take (n + 1))) (t + (n + 1))
    else if (V.getD (vIdx c) []).isPrefixOf (w.drop t) then sols w p V (t + (V.getD (vIdx c) []).length) else []
/-- Does a word fit a pattern with some values? -/
def fitB : List UInt8 → List UInt8 → Vals → Bool
  | [], w, _ => w.isEmpty
  | c :: p, w, V => if V.getD (vIdx c) [] = [] then (List.range w.length).any fun n => fitB p (w.drop (n + 1)) (V.set (vIdx c) (w.take (n + 1)))
    else (V.getD (vIdx c) []).isPrefixOf w && fitB p (w.drop (V.getD (vIdx c) []).length) V
/-- The values that give the variable k a word of at most n letters. -/
def solsN (w p : List UInt8) (V : Vals) (k t n : Nat) : List (Vals × Nat) := (List.range n).flatMap fun n => sols w p (V.set k ((w.drop t).take (n + 1))) (t + (n + 1))
theorem solsN_succ (w p : List UInt8) (V : Vals) (k t n : Nat) : solsN w p V k t (n + 1) = solsN w p V k t n ++ sols w p (V.set k ((w.drop t).take (n + 1))) (t + (n + 1)) := by simp [solsN, List.range_succ]
theorem sols_new {w p : List UInt8} {V : Vals} {t : Nat} {c : UInt8} (h : V.getD (vIdx c) [] = []) : sols w (c :: p) V t = solsN w p V (vIdx c) t (w.length - t) := by
  conv => lhs; unfold sols
  rw [if_pos h]; rfl
theorem sols_old {w p : List UInt8} {V : Vals} {t : Nat} {c : UInt8} (h : ¬ V.getD (vIdx c) [] = []) : sols w (c :: p) V t = if (V.getD (vIdx c) []).isPrefixOf (w.drop t) then sols w p V (t + (V.getD (vIdx c) []).length) else [] := by
  conv => lhs; unfold sols
  rw [if_neg h]
/-- Does a word fit where the variable k has at most n letters? -/
def fitN (p w : List UInt8) (V : Vals) (k n : Nat) : Bool := (List.range n).any fun n => fitB p (w.drop (n + 1)) (V.set k (w.take (n + 1)))
theorem fitN_succ (p w : List UInt8) (V : Vals) (k n : Nat) : fitN p w V k (n + 1) = (fitN p w V k n || fitB p (w.drop (n + 1)) (V.set k (w.take (n + 1)))) := by simp [fitN, List.range_succ]
theorem fitN_yes {p w : List UInt8} {V : Vals} {k n m : Nat} (hn : n < m) (h : fitB p (w.drop (n + 1)) (V.set k (w.take (n + 1))) = true) : fitN p w V k m = true := by
  unfold fitN
  rw [List.any_eq_true]
  exact ⟨n, List.mem_range.2 hn, h⟩
theorem fitB_new {p w : List UInt8} {V : Vals} {c : UInt8} (h : V.getD (vIdx c) [] = []) : fitB (c :: p) w V = fitN p w V (vIdx c) w.length := by
  conv => lhs; unfold fitB
  rw [if_pos h]; rfl
theorem fitB_old {p w : List UInt8} {V : Vals} {c : UInt8} (h : ¬ V.getD (vIdx c) [] = []) : fitB (c :: p) w V = ((V.getD (vIdx c) []).isPrefixOf w && fitB p (w.drop (V.getD (vIdx c) []).length) V) := by
  conv => lhs; unfold fitB
  rw [if_neg h]
theorem any_flat {A B : Type} (l : List A) (f : A → List B) (q : B → Bool) : (l.flatMap f).any q = l.any fun a => (f a).any q := by
  induction l with
  | nil => rfl
  | cons a l ih => rw [List.flatMap_cons, List.any_append, List.any_cons, ih]
theorem prefix_len {a b : List UInt8} (h : a.isPrefixOf b = true) : a.length ≤ b.length := (List.isPrefixOf_iff_prefix.1 h).length_le
theorem sols_fit (w : List UInt8) : ∀ (p : List UInt8) (V : Vals) (t : Nat), t ≤ w.length → (sols w p V t).any (fun x => x.2 == w.length) = fitB p (w.drop t) V
  | [], V, t, ht => by
    unfold sols fitB
    rw [Bool.eq_iff_iff]
    simp
    omega
  | c :: p, V, t, ht => by
    unfold sols fitB
    by_cases h0 : V.getD (vIdx c) [] = []
    · rw [if_pos h0, if_pos h0, any_flat, List.length_drop]
      rw [Bool.eq_iff_iff, List.any_eq_true, List.any_eq_true]
      have e : ∀ n, n ∈ List.range (w.length - t) → (sols w p (V.set (vIdx c) ((w.drop t).take (n + 1))) (t + (n + 1))).any (fun x => x.2 == w.length) = fitB p ((w.drop t).drop (n + 1)) (V.set (vIdx c) ((w.drop t).take (n + 1))) := by
        intro n hn
        have := List.mem_range.1 hn
        rw [sols_fit w p _ _ (by omega), List.drop_drop]
      constructor
      · rintro ⟨n, hn, h⟩; exact ⟨n, hn, by rw [← e n hn]; exact h⟩
      · rintro ⟨n, hn, h⟩; exact ⟨n, hn, by rw [e n hn]; exact h⟩
    · rw [if_neg h0, if_neg h0]
      by_cases hp : (V.getD (vIdx c) []).isPrefixOf (w.drop t) = true
      · have hl := prefix_len hp
        rw [List.length_drop] at hl
        rw [if_pos hp, hp, Bool.true_and, sols_fit w p _ _ (by omega), List.drop_drop]
      · rw [if_neg hp]
        have : (V.getD (vIdx c) []).isPrefixOf (w.drop t) = false := by cases hh : (V.getD (vIdx c) []).isPrefixOf (w.drop t) with
          | false => rfl
          | true => exact absurd hh hp
        rw [this, Bool.false_and]; rfl
theorem fitB_len : ∀ (p w : List UInt8) (V : Vals), fitB p w V = true → p.length ≤ w.length
  | [], w, V, _ => Nat.zero_le _
  | c :: p, w, V, h => by
    unfold fitB at h
    by_cases h0 : V.getD (vIdx c) [] = []
    · rw [if_pos h0, List.any_eq_true] at h
      obtain ⟨n, hn, h⟩ := h
      have h1 := fitB_len p _ _ h
      have := List.mem_range.1 hn
      rw [List.length_drop] at h1
      rw [List.length_cons]
      omega
    · rw [if_neg h0, Bool.and_eq_true] at h
      have h1 := fitB_len p _ _ h.2
      have h2 := prefix_len h.1
      have h3 : 1 ≤ (V.getD (vIdx c) []).length := by
        cases e : V.getD (vIdx c) [] with
        | nil => exact absurd e h0
        | cons a l => simp
      rw [List.length_drop] at h1
      rw [List.length_cons]
      omega
/-- A longer word for the variable leaves too few letters. -/
theorem fitN_low {p w : List UInt8} {V : Vals} {k : Nat} : fitN p w V k w.length = fitN p w V k (w.length - p.length) := by
  rw [Bool.eq_iff_iff]
  unfold fitN
  rw [List.any_eq_true, List.any_eq_true]
  constructor
  · rintro ⟨n, hn, h⟩
    have h1 := fitB_len _ _ _ h
    have h2 := List.mem_range.1 hn
    rw [List.length_drop] at h1
    exact ⟨n, List.mem_range.2 (by omega), h⟩
  · rintro ⟨n, hn, h⟩
    have h2 := List.mem_range.1 hn
    exact ⟨n, List.mem_range.2 (by omega), h⟩
def V0 : Vals := [[], [], []]
def fitsB (w p : List UInt8) : Bool := fitB p w V0
/-- Does some end of a word fit a pattern? -/
def endsP (w p : List UInt8) : Bool := (List.range w.length).any fun i => fitsB (w.drop i) p
/-- Does a word have a pattern? -/
theorem endsP_low (w p : List UInt8) (hp : 1 ≤ p.length) : endsP w p = (List.range (w.length + 1 - p.length)).any fun i => fitsB (w.drop i) p := by
  rw [Bool.eq_iff_iff]
  unfold endsP
  rw [List.any_eq_true, List.any_eq_true]
  constructor
  · rintro ⟨i, hi, h⟩
    have h1 := fitB_len _ _ _ h
    rw [List.length_drop] at h1
    have := List.mem_range.1 hi
    exact ⟨i, List.mem_range.2 (by omega), h⟩
  · rintro ⟨i, hi, h⟩
    have := List.mem_range.1 hi
    exact ⟨i, List.mem_range.2 (by omega), h⟩
/-- Does an end fit that begins behind the place i? -/
def endsUp (w p : List UInt8) (i : Int) (m : Nat) : Bool := (List.range m).any fun j => decide (i < j) && fitsB (w.drop j) p
theorem endsUp_top {w p : List UInt8} {i : Int} {m : Nat} (h : (m : Int) ≤ i + 1) : endsUp w p i m = false := by
  cases hh : endsUp w p i m with
  | false => rfl
  | true =>
    unfold endsUp at hh
    obtain ⟨j, hj, hf⟩ := List.any_eq_true.1 hh
    rw [Bool.and_eq_true, decide_eq_true_eq] at hf
    have := List.mem_range.1 hj
    omega
theorem endsUp_step (w p : List UInt8) {i m : Nat} (h : i < m) : endsUp w p ((i : Int) - 1) m = (endsUp w p i m || fitsB (w.drop i) p) := by
  rw [Bool.eq_iff_iff, Bool.or_eq_true]
  unfold endsUp
  rw [List.any_eq_true, List.any_eq_true]
  constructor
  · rintro ⟨j, hj, hf⟩
    rw [Bool.and_eq_true, decide_eq_true_eq] at hf
    by_cases he : j = i
    · subst he; exact .inr hf.2
    · exact .inl ⟨j, hj, by rw [Bool.and_eq_true, decide_eq_true_eq]; exact ⟨by omega, hf.2⟩⟩
  · rintro (⟨j, hj, hf⟩ | hf)
    · rw [Bool.and_eq_true, decide_eq_true_eq] at hf
      exact ⟨j, hj, by rw [Bool.and_eq_true, decide_eq_true_eq]; exact ⟨by omega, hf.2⟩⟩
    · exact ⟨i, List.mem_range.2 h, by rw [Bool.and_eq_true, decide_eq_true_eq]; exact ⟨by omega, hf⟩⟩
theorem endsUp_all {w p : List UInt8} {i : Int} {m : Nat} (h : i < 0) : endsUp w p i m = (List.range m).any fun j => fitsB (w.drop j) p := by
  rw [Bool.eq_iff_iff]
  unfold endsUp
  rw [List.any_eq_true, List.any_eq_true]
  constructor
  · rintro ⟨j, hj, hf⟩
    rw [Bool.and_eq_true, decide_eq_true_eq] at hf
    exact ⟨j, hj, hf.2⟩
  · rintro ⟨j, hj, hf⟩
    exact ⟨j, hj, by rw [Bool.and_eq_true, decide_eq_true_eq]; exact ⟨by omega, hf⟩⟩
/-- The words of d letters more behind w, of the first k letters, that avoid a pattern. -/
def avL (p : List UInt8) (k : Nat) : Nat → List UInt8 → List (List UInt8)
  | 0, w => [w]
  | d + 1, w => (List.range k).flatMap fun i => if endsP (w ++ [ltr i]) p then [] else avL p k d (w ++ [ltr i])
def avS (p : List UInt8) (k d : Nat) (w : List UInt8) (i : Nat) : List (List UInt8) := if endsP (w ++ [ltr i]) p then [] else avL p k d (w ++ [ltr i])
/-- Those of the first i letters. -/
def avN (p : List UInt8) (k d : Nat) (w : List UInt8) (i : Nat) : List (List UInt8) := (List.range i).flatMap (avS p k d w)
theorem avN_zero (p : List UInt8) (k d : Nat) (w : List UInt8) : avN p k d w 0 = [] := rfl
theorem avN_succ (p : List UInt8) (k d : Nat) (w : List UInt8) (i : Nat) : avN p k d w (i + 1) = avN p k d w i ++ avS p k d w i := by simp [avN, List.range_succ]
theorem avL_all (p : List UInt8) (k d : Nat) (w : List UInt8) : avL p k (d + 1) w = avN p k d w k := rfl
theorem avL_split (p : List UInt8) (k d : Nat) (w : List UInt8) {i : Nat} (h : i ≤ k) : ∃ rest, avL p k (d + 1) w = avN p k d w i ++ rest := by
  refine ⟨(List.range' i (k - i)).flatMap (avS p k d w), ?_⟩
  rw [avL_all]
  unfold avN
  rw [← List.flatMap_append]
  congr 1
  rw [List.range_eq_range', List.range_eq_range']
  have := List.range'_append_1 (s := 0) (m := i) (n := k - i)
  rw [Nat.zero_add, show i + (k - i) = k by omega] at this
  exact this.symm
def isPat (p : List UInt8) : Bool := decide (1 ≤ p.length ∧ p.length ≤ 8) && p.all fun c => decide (65 ≤ c.toNat) && decide (c.toNat < 68)
def hasAv (p : List UInt8) (k n : Nat) : Bool := !(avL p k n []).isEmpty
/-- The greatest number of letters, from n on. -/
def longF (p : List UInt8) (k : Nat) : Nat → Nat → Option Nat
  | 0, _ => none
  | f + 1, n => if hasAv p k (n + 1) then longF p k f (n + 1) else some n
def longT (p : List UInt8) (k : Int) : Int := if isPat p && decide (1 ≤ k ∧ k ≤ 2) then (match longF p k.toNat 11 0 with | some n => n | none => 0) else 0
def longC (p : List UInt8) (k : Int) : Int := if isPat p then (if 1 ≤ k ∧ k ≤ 2 then (match longF p k.toNat 11 0 with | some _ => 0 | none => 4) else 2) else 1
end Go.Proofs.YthpcojnpiggaiaaGreat

/- Plain law: words with squares, and square free words. -/
import Derived.Test.YthpcojnpiggaiaaGreatM2
import Derived.Test.YthpcojnpiggaiaaGreatC17
namespace Go.Proofs.YthpcojnpiggaiaaGreat
open Go
/-- Does a word have a period? -/
def hp (v : List UInt8) (q : Nat) : Bool := v.drop q == v.take (v.length - q)
/-- Does a word end with a square of a root of at most n letters? -/
def endsSqTo (u : List UInt8) (n : Nat) : Bool := (List.range n).any fun q => hp (u.drop (u.length - 2 * (q + 1))) (q + 1)
def endsSq (u : List UInt8) : Bool := endsSqTo u (u.length / 2)
theorem endsSqTo_succ (u : List UInt8) (n : Nat) : endsSqTo u (n + 1) = (endsSqTo u n || hp (u.drop (u.length - 2 * (n + 1))) (n + 1)) := by simp [endsSqTo, List.range_succ]
theorem endsSqTo_yes {u : List UInt8} {n m : Nat} (h : n < m) (hh : hp (u.drop (u.length - 2 * (n + 1))) (n + 1) = true) : endsSqTo u m = true := by
  unfold endsSqTo
  rw [List.any_eq_true]
  exact ⟨n, List.mem_range.2 h, hh⟩
/-- Lists of places and lengths. -/
def rowsQ (P : Nat → Nat → Bool) (i q : Nat) : List (List Int) := ((List.range q).filter fun m => P i (m + 1)).map fun (m : Nat) => [(i : Int), ((m + 1 : Nat) : Int)]
def rowsQT (P : Nat → Nat → Bool) (L k n : Nat) : List (List Int) := (List.range n).flatMap fun i => rowsQ P i ((L - i) / k)
theorem rowsQ_succ (P : Nat → Nat → Bool) (i q : Nat) : rowsQ P i (q + 1) = rowsQ P i q ++ if P i (q + 1) then [[(i : Int), ((q + 1 : Nat) : Int)]] else [] := by
  unfold rowsQ
  rw [List.range_succ, List.filter_append, List.map_append]
  congr 1
  cases h : P i (q + 1) <;> simp [h]
theorem rowsQT_succ (P : Nat → Nat → Bool) (L k n : Nat) : rowsQT P L k (n + 1) = rowsQT P L k n ++ rowsQ P n ((L - n) / k) := by simp [rowsQT, List.range_succ]
theorem rowsQ_len (P : Nat → Nat → Bool) (i q : Nat) : (rowsQ P i q).length ≤ q := by
  unfold rowsQ
  rw [List.length_map]
  exact Nat.le_trans (List.length_filter_le _ _) (by rw [List.length_range]; exact Nat.le_refl _)
theorem rowsQT_len (P : Nat → Nat → Bool) (L k n : Nat) : (rowsQT P L k n).length ≤ n * L := by
  induction n with
  | zero => simp [rowsQT]
  | succ n ih =>
    have h1 := rowsQ_len P n ((L - n) / k)
    have h2 : (L - n) / k ≤ L := Nat.le_trans (Nat.div_le_self _ _) (Nat.sub_le _ _)
    rw [rowsQT_succ, List.length_append, Nat.succ_mul]
    omega
/-- Does a word have a square? -/
def sqIn (w : List UInt8) : Bool := (List.range w.length).any fun i => (List.range ((w.length - i) / 2)).any fun m => hp (seg w i (2 * (m + 1))) (m + 1)
def pwP (w : List UInt8) (k : Nat) : Nat → Nat → Bool := fun i m => hp (seg w i (k * m)) m
theorem rowsQT_sq (w : List UInt8) : (rowsQT (pwP w 2) w.length 2 w.length).isEmpty = !sqIn w := by
  have key : (rowsQT (pwP w 2) w.length 2 w.length).isEmpty = false ↔ sqIn w = true := by
    unfold sqIn
    rw [List.any_eq_true]
    constructor
    · intro h
      cases hr : rowsQT (pwP w 2) w.length 2 w.length with
      | nil => rw [hr] at h; cases h
      | cons a l =>
        have ha : a ∈ rowsQT (pwP w 2) w.length 2 w.length := by rw [hr]; exact List.mem_cons_self ..
        unfold rowsQT at ha
        obtain ⟨i, hi, ha⟩ := List.mem_flatMap.1 ha
        unfold rowsQ at ha
        obtain ⟨m, hm, _⟩ := List.mem_map.1 ha
        obtain ⟨h1, h2⟩ := List.mem_filter.1 hm
        exact ⟨i, hi, List.any_eq_true.2 ⟨m, h1, h2⟩⟩
    · rintro ⟨i, hi, h⟩
      obtain ⟨m, hm, h2⟩ := List.any_eq_true.1 h
      have : [(i : Int), ((m + 1 : Nat) : Int)] ∈ rowsQT (pwP w 2) w.length 2 w.length := by
        unfold rowsQT
        refine List.mem_flatMap.2 ⟨i, hi, ?_⟩
        unfold rowsQ
        exact List.mem_map.2 ⟨m, List.mem_filter.2 ⟨hm, h2⟩, rfl⟩
      cases hr : rowsQT (pwP w 2) w.length 2 w.length with
      | nil => rw [hr] at this; cases this
      | cons a l => rfl
  cases h : sqIn w
  · cases h2 : (rowsQT (pwP w 2) w.length 2 w.length).isEmpty
    · rw [key.1 h2] at h; cases h
    · rfl
  · rw [key.2 h]; rfl
/-- So by the ends of the beginnings, as the reference does it. -/
theorem sqIn_ends (w : List UInt8) : sqIn w = (List.range (w.length + 1)).any fun n => endsSq (w.take n) := by
  rw [Bool.eq_iff_iff]
  unfold sqIn endsSq endsSqTo
  rw [List.any_eq_true, List.any_eq_true]
  constructor
  · rintro ⟨i, hi, h⟩
    obtain ⟨m, hm, h2⟩ := List.any_eq_true.1 h
    have h1 := List.mem_range.1 hi
    have h3 := List.mem_range.1 hm
    have h4 : i + 2 * (m + 1) ≤ w.length := by omega
    have hl : (w.take (i + 2 * (m + 1))).length = i + 2 * (m + 1) := by rw [List.length_take]; omega
    refine ⟨i + 2 * (m + 1), List.mem_range.2 (by omega), List.any_eq_true.2 ⟨m, List.mem_range.2 (by rw [hl]; omega), ?_⟩⟩
    rw [hl, show i + 2 * (m + 1) - 2 * (m + 1) = i by omega]
    exact h2
  · rintro ⟨n, hn, h⟩
    obtain ⟨m, hm, h2⟩ := List.any_eq_true.1 h
    have h1 := List.mem_range.1 hn
    have hl : (w.take n).length = n := by rw [List.length_take]; omega
    rw [hl] at hm h2
    have h3 := List.mem_range.1 hm
    refine ⟨n - 2 * (m + 1), List.mem_range.2 (by omega), List.any_eq_true.2 ⟨m, List.mem_range.2 (by omega), ?_⟩⟩
    unfold seg
    rw [show n - 2 * (m + 1) + 2 * (m + 1) = n by omega]
    exact h2
/-- A square that ends a word, as the reference compares. -/
theorem sq_at {u : List UInt8} {q : Nat} (h : 2 * q ≤ u.length) : (u.drop (u.length - q) == (u.take (u.length - q)).drop (u.length - 2 * q)) = hp (u.drop (u.length - 2 * q)) q := by
  unfold hp
  rw [List.drop_drop, List.length_drop, show u.length - 2 * q + q = u.length - q by omega, show u.length - (u.length - 2 * q) - q = q by omega, List.drop_take, show u.length - q - (u.length - 2 * q) = q by omega]
/-- The words of d letters more behind w that have no squares at their ends. -/
def grL (k : Nat) : Nat → List UInt8 → List (List UInt8)
  | 0, w => [w]
  | d + 1, w => (List.range k).flatMap fun i => if endsSq (w ++ [ltr i]) then [] else grL k d (w ++ [ltr i])
def grS (k d : Nat) (w : List UInt8) (i : Nat) : List (List UInt8) := if endsSq (w ++ [ltr i]) then [] else grL k d (w ++ [ltr i])
def grN (k d : Nat) (w : List UInt8) (i : Nat) : List (List UInt8) := (List.range i).flatMap (grS k d w)
theorem grN_zero (k d : Nat) (w : List UInt8) : grN k d w 0 = [] := rfl
theorem grN_succ (k d : Nat) (w : List UInt8) (i : Nat) : grN k d w (i + 1) = grN k d w i ++ grS k d w i := by simp [grN, List.range_succ]
theorem grL_all (k d : Nat) (w : List UInt8) : grL k (d + 1) w = grN k d w k := rfl
theorem grL_split (k d : Nat) (w : List UInt8) {i : Nat} (h : i ≤ k) : ∃ rest, grL k (d + 1) w = grN k d w i ++ rest := by
  refine ⟨(List.range' i (k - i)).flatMap (grS k d w), ?_⟩
  rw [grL_all]
  unfold grN
  rw [← List.flatMap_append]
  congr 1
  rw [List.range_eq_range', List.range_eq_range']
  have := List.range'_append_1 (s := 0) (m := i) (n := k - i)
  rw [Nat.zero_add, show i + (k - i) = k by omega] at this
  exact this.symm
theorem grL_word (k : Nat) : ∀ (d : Nat) (w u : List UInt8), u ∈ grL k d w → u.length = w.length + d ∧ ∀ c ∈ u, c ∈ w ∨ ∃ i, i < k ∧ c = ltr i
  | 0, w, u, h => by
    unfold grL at h
    rw [List.mem_singleton.1 h]
    exact ⟨rfl, fun c hc => .inl hc⟩
  | d + 1, w, u, h => by
    unfold grL at h
    obtain ⟨i, hi, h⟩ := List.mem_flatMap.1 h
    split at h
    · cases h
    · obtain ⟨h1, h2⟩ := grL_word k d _ u h
      rw [List.length_append, List.length_singleton] at h1
      refine ⟨by omega, fun c hc => ?_⟩
      rcases h2 c hc with h3 | h3
      · rcases List.mem_append.1 h3 with h3 | h3
        · exact .inl h3
        · exact .inr ⟨i, List.mem_range.1 hi, List.mem_singleton.1 h3⟩
      · exact .inr h3
/-- A word of the first k letters. -/
def Lt0 (k : Nat) (w : List UInt8) : Prop := ∀ u ∈ w, 97 ≤ u.toNat ∧ u.toNat - 97 < k
theorem lt0_nil (k : Nat) : Lt0 k [] := fun u h => by cases h
theorem ltr_toNat {i : Nat} (h : i ≤ 100) : (ltr i).toNat = 97 + i := by
  unfold ltr
  rw [UInt8.toNat_ofNat_of_lt' (by show 97 + i < 256; omega)]
theorem lt0_snoc {k : Nat} {w : List UInt8} (h : Lt0 k w) {i : Nat} (hi : i < k) (hk : i ≤ 100) : Lt0 k (w ++ [ltr i]) := by
  intro u hu
  rcases List.mem_append.1 hu with hu | hu
  · exact h u hu
  · rw [List.mem_singleton.1 hu, ltr_toNat hk]; omega
/-- The first word of d letters whose image has a square. -/
def makerF (ws : List (List UInt8)) (d : Nat) (w : List UInt8) : Option (List UInt8) := (grL ws.length d w).find? fun u => sqIn (imgOf ws u)
def stepM (ws : List (List UInt8)) : List UInt8 → List UInt8 → List UInt8 × Bool := fun _ u => (u, sqIn (imgOf ws u))
theorem runS_find (ws : List (List UInt8)) : ∀ (l : List (List UInt8)) (s : List UInt8), (runS (stepM ws) s l).2 = (l.find? fun u => sqIn (imgOf ws u)).isSome ∧ ∀ u, (l.find? fun u => sqIn (imgOf ws u)) = some u → (runS (stepM ws) s l).1 = u
  | [], s => ⟨rfl, fun u h => by cases h⟩
  | a :: l, s => by
    have ih := runS_find ws l a
    unfold runS
    rw [List.find?_cons]
    cases h : sqIn (imgOf ws a)
    · have e : (stepM ws s a).2 = false := h
      rw [e, if_neg (by decide)]
      exact ih
    · have e : (stepM ws s a).2 = true := h
      rw [e, if_pos rfl]
      exact ⟨rfl, fun u hu => by injection hu⟩
def makeTo (ws : List (List UInt8)) (n : Nat) : Option (List UInt8) := (List.range n).findSome? fun m => makerF ws m []
theorem makeTo_succ (ws : List (List UInt8)) (n : Nat) : makeTo ws (n + 1) = (makeTo ws n).or (makerF ws n []) := by
  unfold makeTo
  rw [List.range_succ, findSome_snoc]
theorem makeTo_yes {ws : List (List UInt8)} {n m : Nat} {u : List UInt8} (h : n < m) (h0 : makeTo ws n = none) (hu : makerF ws n [] = some u) : makeTo ws m = some u := find_yes h h0 hu
end Go.Proofs.YthpcojnpiggaiaaGreat

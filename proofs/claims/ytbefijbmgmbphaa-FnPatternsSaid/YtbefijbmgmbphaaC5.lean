/- Contracts: counts of letters and numbers of arrangements, of the reference and of the program. -/
import Derived.Test.YtbefijbmgmbphaaC4
namespace Go.Proofs.Ytbefijbmgmbphaa
open Go
set_option linter.unusedSimpArgs false
set_option linter.unusedVariables false

theorem Rd.opened {M : Mem} {v : Value} {xs : List Value} (h : Rd M v xs) : ∃ a c, v = .slice a xs.length c ∧ (xs.length = 0 ∨ ∃ b o, a = some ⟨b, o, none⟩ ∧ ∀ i, i < xs.length → M.get? b (o + i) = xs[i]?) := by
  rcases h with ⟨a0, c0, rfl, h2⟩ | ⟨b, o, c, rfl, h2, h3⟩
  · exact ⟨a0, c0, by rw [h2]; rfl, .inl (by rw [h2]; rfl)⟩
  · exact ⟨_, c, rfl, .inr ⟨b, o, rfl, fun i hi => sub_getN h2 hi⟩⟩
theorem l01In_does (n lo hi : Int) (M : Mem) (R : Value → Mem → Prop) (h : R (.bool (decide (lo ≤ n ∧ n ≤ hi))) M) : Does Try.prog 71 [.int .i64 n, .int .i64 lo, .int .i64 hi] M R := by
  refine does_fn tab_ok Try.func71 rfl (by kernel_rfl) (by kernel_rfl) Try.ntmps71 Try.results71 rfl ?_
  by_cases h1 : lo ≤ n
  · simp (disch := omega) [h1]; exact ret_of (by simpa [h1] using h)
  · simp (disch := omega) [h1]; exact ret_of (by simpa [h1] using h)
/-- One step of counting arrangements: the number so far, and how many letters are set. -/
def stepA (s : Nat × Nat) (j : Nat) : Nat × Nat := (s.1 * (s.2 + 1) / (j + 1), s.2 + 1)
def rowA (s : Nat × Nat) (v : Nat) : Nat × Nat := (List.range v).foldl stepA s
def arrA (vs : List Nat) : Nat × Nat := vs.foldl rowA (1, 0)
def fact : Nat → Nat
  | 0 => 1
  | n + 1 => (n + 1) * fact n
theorem rowA_succ (s : Nat × Nat) (v : Nat) : rowA s (v + 1) = stepA (rowA s v) v := by simp [rowA, List.range_succ]
theorem fine_step {s : Nat × Nat} (h : s.1 ≤ fact s.2) (j : Nat) : (stepA s j).1 ≤ fact (stepA s j).2 := by
  simp only [stepA, fact]
  refine Nat.le_trans (Nat.div_le_self _ _) ?_
  rw [Nat.mul_comm]
  exact Nat.mul_le_mul_left _ h
theorem rowA_fine {s : Nat × Nat} (h : s.1 ≤ fact s.2) : ∀ v, (rowA s v).1 ≤ fact (rowA s v).2 ∧ (rowA s v).2 = s.2 + v
  | 0 => ⟨h, rfl⟩
  | v + 1 => by
    obtain ⟨h1, h2⟩ := rowA_fine h v
    rw [rowA_succ]
    exact ⟨fine_step h1 v, by simp only [stepA]; omega⟩
theorem foldA_fine : ∀ (vs : List Nat) (s : Nat × Nat), s.1 ≤ fact s.2 → (vs.foldl rowA s).1 ≤ fact (vs.foldl rowA s).2 ∧ (vs.foldl rowA s).2 = s.2 + vs.sum
  | [], s, h => ⟨h, rfl⟩
  | v :: vs, s, h => by
    obtain ⟨h1, h2⟩ := rowA_fine h v
    obtain ⟨h3, h4⟩ := foldA_fine vs _ h1
    refine ⟨h3, ?_⟩
    rw [List.foldl_cons, h4, h2, List.sum_cons]; omega
theorem fact_le : ∀ {n m : Nat}, n ≤ m → fact n ≤ fact m
  | n, 0, h => by have : n = 0 := by omega
                  subst this; exact Nat.le_refl _
  | n, m + 1, h => by
    rcases Nat.lt_or_ge n (m + 1) with h1 | h1
    · have := fact_le (n := n) (m := m) (by omega)
      simp only [fact]
      exact Nat.le_trans this (Nat.le_mul_of_pos_left _ (by omega))
    · have : n = m + 1 := by omega
      subst this; exact Nat.le_refl _
def natsV (vs : List Nat) : List Value := vs.map fun (n : Nat) => Value.int .i64 n
theorem natsV_length (vs : List Nat) : (natsV vs).length = vs.length := by simp [natsV]
theorem natsV_get {vs : List Nat} {i : Nat} : (natsV vs)[i]? = (vs[i]?).map fun (n : Nat) => Value.int .i64 n := by simp [natsV]
theorem sum_take_le (vs : List Nat) (i : Nat) (h : i < vs.length) : (vs.take i).sum + vs[i] ≤ vs.sum := by
  have h1 := List.sum_append (l₁ := vs.take i) (l₂ := vs.drop i)
  rw [List.take_append_drop, List.drop_eq_getElem_cons h, List.sum_cons] at h1
  omega
theorem sum_le_take (vs : List Nat) (i : Nat) : (vs.take i).sum ≤ vs.sum := by
  have h1 := List.sum_append (l₁ := vs.take i) (l₂ := vs.drop i)
  rw [List.take_append_drop] at h1
  omega
theorem arrA_step {vs : List Nat} (h : vs.sum ≤ 12) {i j : Nat} (hi : i < vs.length) (hj : j < vs[i]) :
    (rowA (arrA (vs.take i)) j).1 * ((rowA (arrA (vs.take i)) j).2 + 1) ≤ 479001600 ∧ (rowA (arrA (vs.take i)) j).2 ≤ 11 := by
  obtain ⟨h1, h2⟩ := foldA_fine (vs.take i) (1, 0) (Nat.le_refl 1)
  obtain ⟨h3, h4⟩ := rowA_fine h1 j
  have h5 := sum_take_le vs i hi
  simp only at h2
  have h6 : (rowA (arrA (vs.take i)) j).2 ≤ 11 := by unfold arrA; omega
  refine ⟨?_, h6⟩
  have h7 := fact_le (n := (rowA (arrA (vs.take i)) j).2 + 1) (m := 12) (by omega)
  have h8 : fact 12 = 479001600 := by decide
  rw [h8] at h7
  simp only [fact] at h7
  refine Nat.le_trans ?_ h7
  rw [Nat.mul_comm]
  exact Nat.mul_le_mul_left _ h3
theorem arrA_fine {vs : List Nat} (h : vs.sum ≤ 12) (i : Nat) : (arrA (vs.take i)).1 ≤ 479001600 ∧ (arrA (vs.take i)).2 ≤ 12 := by
  obtain ⟨h1, h2⟩ := foldA_fine (vs.take i) (1, 0) (Nat.le_refl 1)
  have h5 := sum_le_take vs i
  simp only at h2
  have h6 : (arrA (vs.take i)).2 ≤ 12 := by unfold arrA; omega
  refine ⟨Nat.le_trans h1 (Nat.le_trans (fact_le h6) (by decide)), h6⟩
theorem arrA_snoc {vs : List Nat} {i : Nat} (hi : i < vs.length) : arrA (vs.take (i + 1)) = rowA (arrA (vs.take i)) vs[i] := by
  unfold arrA; rw [take_snoc vs hi, List.foldl_append]; rfl
def ncounts (l : List UInt8) : List Nat := (List.range 5).map fun k => l.countP fun u => u.toNat == 97 + k
theorem counts_nats (l : List UInt8) : ints (counts l) = natsV (ncounts l) := rfl
theorem ncounts_sum (l : List UInt8) : (ncounts l).sum ≤ l.length := by
  induction l with
  | nil => decide
  | cons u l ih =>
    simp only [ncounts, List.range, List.range.loop, List.map_cons, List.map_nil, List.sum_cons, List.sum_nil, List.countP_cons, List.length_cons, beq_iff_eq] at ih ⊢
    repeat' split
    all_goals omega
theorem counts_le (l : List UInt8) : (counts l).length ≤ 1099511627776 := by rw [counts_length]; omega
def tup2 (v : Value) (c : Int) : Value := .tuple #[v, .int .i64 c]
def codeW (ws : List (List UInt8)) : Int := if ws.all isWord then 0 else 1
theorem codeOf_true (ws : List (List UInt8)) : codeOf ws true = codeW ws := by simp [codeOf, codeW]
theorem all1 (l : List UInt8) : [l].all isWord = isWord l := by simp
theorem all2 (l k : List UInt8) : [l, k].all isWord = (isWord l && isWord k) := by simp
/-- Are two words alike? -/
def alikeB (l k : List UInt8) : Bool := (isWord l && isWord k) && (counts l == counts k)
def alikeC (l k : List UInt8) : Int := if isWord l && isWord k then 0 else 1
/-- The number of words that are alike, and the code. -/
def alikeN (l : List UInt8) : Int := if isWord l then (if l.length ≤ 12 then ((arrA (ncounts l)).1 : Int) else 0) else 0
def alikeNC (l : List UInt8) : Int := if isWord l then (if l.length ≤ 12 then 0 else 3) else 1
end Go.Proofs.Ytbefijbmgmbphaa

/- Contracts: counts of letters and numbers of arrangements, of the reference and of the program. -/
import Derived.Test.YtncpooklejiphaaC4
namespace Go.Proofs.Ytncpooklejiphaa
open Go
set_option linter.unusedSimpArgs false
set_option linter.unusedVariables false

theorem Rd.opened {M : Mem} {v : Value} {xs : List Value} (h : Rd M v xs) : ∃ a c, v = .slice a xs.length c ∧ (xs.length = 0 ∨ ∃ b o, a = some ⟨b, o, none⟩ ∧ ∀ i, i < xs.length → M.get? b (o + i) = xs[i]?) := by
  rcases h with ⟨a0, c0, rfl, h2⟩ | ⟨b, o, c, rfl, h2, h3⟩
  · exact ⟨a0, c0, by rw [h2]; rfl, .inl (by rw [h2]; rfl)⟩
  · exact ⟨_, c, rfl, .inr ⟨b, o, rfl, fun i hi => sub_getN h2 hi⟩⟩
theorem l01In_does (n lo hi : Int) (M : Mem) (R : Value → Mem → Prop) (h : R (.bool (decide (lo ≤ n ∧ n ≤ hi))) M) : Does Try.prog 57 [.int .i64 n, .int .i64 lo, .int .i64 hi] M R := by
  refine does_fn tab_ok Try.func57 rfl (by kernel_rfl) (by kernel_rfl) Try.ntmps57 Try.results57 rfl ?_
  by_cases h1 : lo ≤ n
  · simp (disch := omega) [h1]; exact ret_of (by simpa [h1] using h)
  · simp (disch := omega) [h1]; exact ret_of (by simpa [h1] using h)
theorem l01Count_does (l : List UInt8) (M : Mem) (R : Value → Mem → Prop) (hl : l.length ≤ 1099511627776) (hw : l.all isL = true)
    (h : ∀ v M', Own M v (ints (counts l)) M' → R v M') : Does Try.prog 131 [str l] M R := by
  refine does_fn tab_ok Try.func131 rfl (by kernel_rfl) (by kernel_rfl) Try.ntmps131 Try.results131 rfl ?_
  simp (disch := omega)
  intro b1 hb1
  simp (disch := omega)
  refine loop_to tab_ok [4, 6, 7, 8, 9, 10, 11, 12, 13, 14, 15, 16, 17, 18, 19] (fun i : Nat => [(4, .int .i64 i)])
    (fun i M' => i ≤ l.length ∧ M' = M.put b1 (.cells true (ints (counts (l.take i))) 5)) (fun i => l.length - i) 0 (by kernel_rfl) (by simp (disch := omega)) ⟨by omega, ?_⟩ ?_
  · rfl
  rintro i M' g ⟨hi, rfl⟩
  by_cases hlt : i < l.length
  · have hx : l[i]? = some l[i] := List.getElem?_eq_getElem hlt
    have hu := l[i].toNat_lt
    have hL : isL l[i] = true := List.all_eq_true.1 hw _ (List.getElem_mem hlt)
    have hr := isL_range hL
    have hk : ((l[i].toNat : Int) - 97).toNat = l[i].toNat - 97 := by omega
    have hg := counts_get (l.take i) (k := l[i].toNat - 97) (by omega)
    have hcl := cnt_le (l.take i) (l[i].toNat - 97)
    have htl : (l.take i).length ≤ l.length := by rw [List.length_take]; omega
    simp (disch := omega)
    refine l01At_does l i _ _ _ hl hx ?_
    simp (disch := omega) [hk, hg, counts_length]
    refine Rnd.mk' (i + 1) (by omega) (by (repeat (first | exact km | refine kp rfl ?_ | refine km' rfl ?_))) (by simp (disch := omega)) ⟨by omega, ?_⟩
    rw [ints_set, take_snoc l hlt, counts_snoc _ _ hL]
  · have hi' : i = l.length := by omega
    subst hi'
    simp (disch := omega)
    exact ret_of (h _ _ (Own.new (c := 5) hb1 rfl (Nat.le_refl 5)))
/-- One step of counting arrangements: the number so far, and how many letters are set. -/
def stepA (s : Nat × Nat) (j : Nat) : Nat × Nat := (s.1 * (s.2 + 1) / (j + 1), s.2 + 1)
def rowA (s : Nat × Nat) (v : Nat) : Nat × Nat := (List.range v).foldl stepA s
def arrA (vs : List Nat) : Nat × Nat := vs.foldl rowA (1, 0)
def fact : Nat → Nat
  | 0 => 1
  | n + 1 => (n + 1) * fact n
theorem rowA_succ (s : Nat × Nat) (v : Nat) : rowA s (v + 1) = stepA (rowA s v) v := by simp [rowA, List.range_succ]
theorem fine_step {s : Nat × Nat} (h : s.1 ≤ fact s.2) (j : Nat) : (stepA s j).1 ≤ fact (stepA s j).2 := by
  simp only [stepA, fact]
  refine Nat.le_trans (Nat.div_le_self _ _) ?_
  rw [Nat.mul_comm]
  exact Nat.mul_le_mul_left _ h
theorem rowA_fine {s : Nat × Nat} (h : s.1 ≤ fact s.2) : ∀ v, (rowA s v).1 ≤ fact (rowA s v).2 ∧ (rowA s v).2 = s.2 + v
  | 0 => ⟨h, rfl⟩
  | v + 1 => by
    obtain ⟨h1, h2⟩ := rowA_fine h v
    rw [rowA_succ]
    exact ⟨fine_step h1 v, by simp only [stepA]; omega⟩
theorem foldA_fine : ∀ (vs : List Nat) (s : Nat × Nat), s.1 ≤ fact s.2 → (vs.foldl rowA s).1 ≤ fact (vs.foldl rowA s).2 ∧ (vs.foldl rowA s).2 = s.2 + vs.sum
  | [], s, h => ⟨h, rfl⟩
  | v :: vs, s, h => by
    obtain ⟨h1, h2⟩ := rowA_fine h v
    obtain ⟨h3, h4⟩ := foldA_fine vs _ h1
    refine ⟨h3, ?_⟩
    rw [List.foldl_cons, h4, h2, List.sum_cons]; omega
theorem fact_le : ∀ {n m : Nat}, n ≤ m → fact n ≤ fact m
  | n, 0, h => by have : n = 0 := by omega
                  subst this; exact Nat.le_refl _
  | n, m + 1, h => by
    rcases Nat.lt_or_ge n (m + 1) with h1 | h1
    · have := fact_le (n := n) (m := m) (by omega)
      simp only [fact]
      exact Nat.le_trans this (Nat.le_mul_of_pos_left _ (by omega))
    · have : n = m + 1 := by omega
      subst this; exact Nat.le_refl _
def natsV (vs : List Nat) : List Value := vs.map fun (n : Nat) => Value.int .i64 n
theorem natsV_length (vs : List Nat) : (natsV vs).length = vs.length := by simp [natsV]
theorem natsV_get {vs : List Nat} {i : Nat} : (natsV vs)[i]? = (vs[i]?).map fun (n : Nat) => Value.int .i64 n := by simp [natsV]
theorem sum_take_le (vs : List Nat) (i : Nat) (h : i < vs.length) : (vs.take i).sum + vs[i] ≤ vs.sum := by
  have h1 := List.sum_append (l₁ := vs.take i) (l₂ := vs.drop i)
  rw [List.take_append_drop, List.drop_eq_getElem_cons h, List.sum_cons] at h1
  omega
theorem sum_le_take (vs : List Nat) (i : Nat) : (vs.take i).sum ≤ vs.sum := by
  have h1 := List.sum_append (l₁ := vs.take i) (l₂ := vs.drop i)
  rw [List.take_append_drop] at h1
  omega
theorem arrA_step {vs : List Nat} (h : vs.sum ≤ 12) {i j : Nat} (hi : i < vs.length) (hj : j < vs[i]) :
    (rowA (arrA (vs.take i)) j).1 * ((rowA (arrA (vs.take i)) j).2 + 1) ≤ 479001600 ∧ (rowA (arrA (vs.take i)) j).2 ≤ 11 := by
  obtain ⟨h1, h2⟩ := foldA_fine (vs.take i) (1, 0) (Nat.le_refl 1)
  obtain ⟨h3, h4⟩ := rowA_fine h1 j
  have h5 := sum_take_le vs i hi
  simp only at h2
  have h6 : (rowA (arrA (vs.take i)) j).2 ≤ 11 := by unfold arrA; omega
  refine ⟨?_, h6⟩
  have h7 := fact_le (n := (rowA (arrA (vs.take i)) j).2 + 1) (m := 12) (by omega)
  have h8 : fact 12 = 479001600 := by decide
  rw [h8] at h7
  simp only [fact] at h7
  refine Nat.le_trans ?_ h7
  rw [Nat.mul_comm]
  exact Nat.mul_le_mul_left _ h3
theorem arrA_fine {vs : List Nat} (h : vs.sum ≤ 12) (i : Nat) : (arrA (vs.take i)).1 ≤ 479001600 ∧ (arrA (vs.take i)).2 ≤ 12 := by
  obtain ⟨h1, h2⟩ := foldA_fine (vs.take i) (1, 0) (Nat.le_refl 1)
  have h5 := sum_le_take vs i
  simp only at h2
  have h6 : (arrA (vs.take i)).2 ≤ 12 := by unfold arrA; omega
  refine ⟨Nat.le_trans h1 (Nat.le_trans (fact_le h6) (by decide)), h6⟩
theorem arrA_snoc {vs : List Nat} {i : Nat} (hi : i < vs.length) : arrA (vs.take (i + 1)) = rowA (arrA (vs.take i)) vs[i] := by
  unfold arrA; rw [take_snoc vs hi, List.foldl_append]; rfl
def ncounts (l : List UInt8) : List Nat := (List.range 5).map fun k => l.countP fun u => u.toNat == 97 + k
theorem counts_nats (l : List UInt8) : ints (counts l) = natsV (ncounts l) := rfl
theorem ncounts_sum (l : List UInt8) : (ncounts l).sum ≤ l.length := by
  induction l with
  | nil => decide
  | cons u l ih =>
    simp only [ncounts, List.range, List.range.loop, List.map_cons, List.map_nil, List.sum_cons, List.sum_nil, List.countP_cons, List.length_cons, beq_iff_eq] at ih ⊢
    repeat' split
    all_goals omega
theorem counts_le (l : List UInt8) : (counts l).length ≤ 1099511627776 := by rw [counts_length]; omega
def tup2 (v : Value) (c : Int) : Value := .tuple #[v, .int .i64 c]
def codeW (ws : List (List UInt8)) : Int := if ws.all isWord then 0 else 1
theorem codeOf_true (ws : List (List UInt8)) : codeOf ws true = codeW ws := by simp [codeOf, codeW]
theorem all1 (l : List UInt8) : [l].all isWord = isWord l := by simp
theorem all2 (l k : List UInt8) : [l, k].all isWord = (isWord l && isWord k) := by simp
/-- Are two words alike? -/
def alikeB (l k : List UInt8) : Bool := (isWord l && isWord k) && (counts l == counts k)
def alikeC (l k : List UInt8) : Int := if isWord l && isWord k then 0 else 1
/-- The number of words that are alike, and the code. -/
def alikeN (l : List UInt8) : Int := if isWord l then (if l.length ≤ 12 then ((arrA (ncounts l)).1 : Int) else 0) else 0
def alikeNC (l : List UInt8) : Int := if isWord l then (if l.length ≤ 12 then 0 else 3) else 1
end Go.Proofs.Ytncpooklejiphaa

/- Contracts: what the laws do to the slices that they were given: marks put in and held. -/
import Derived.Test.YtbefijbmgmbphaaC2
namespace Go.Proofs.Ytbefijbmgmbphaa
open Go
set_option linter.unusedSimpArgs false
set_option linter.unusedVariables false

theorem set_mid {α : Type} (A B : List α) (x v : α) : (A ++ x :: B).set A.length v = A ++ v :: B := by
  rw [List.set_append_right _ _ (Nat.le_refl _)]; simp
/-- Marks from k on. -/
def markI (k : Int) (n : Nat) : List Value := (List.range n).map fun (j : Nat) => Value.int .i64 (k + j)
@[simp] theorem markI_length (k : Int) (n : Nat) : (markI k n).length = n := by simp [markI]
theorem markI_succ (k : Int) (n : Nat) : markI k (n + 1) = markI k n ++ [.int .i64 (k + n)] := by simp [markI, List.range_succ]
theorem markI_get (k : Int) {n i : Nat} (h : i < n) : (markI k n)[i]? = some (.int .i64 (k + i)) := by simp [markI, h]
def digits : Nat → Nat → List UInt8 → List UInt8
  | 0, _, acc => acc
  | fuel + 1, k, acc => if k = 0 then acc else digits fuel (k / 10) (UInt8.ofNat (48 + k % 10) :: acc)
/-- The text that marks a string. -/
def markT (k : Int) : List UInt8 := if k ≤ 0 then [109, 48] else 109 :: digits k.toNat k.toNat []
def markS (k : Int) (n : Nat) : List Value := (List.range n).map fun (j : Nat) => str (markT (k + j))
@[simp] theorem markS_length (k : Int) (n : Nat) : (markS k n).length = n := by simp [markS]
theorem markS_succ (k : Int) (n : Nat) : markS k (n + 1) = markS k n ++ [str (markT (k + n))] := by simp [markS, List.range_succ]
theorem markS_get (k : Int) {n i : Nat} (h : i < n) : (markS k n)[i]? = some (str (markT (k + i))) := by simp [markS, h]
theorem digits_more : ∀ (f g k : Nat) (acc : List UInt8), k ≤ f → k ≤ g → digits f k acc = digits g k acc
  | 0, g, k, acc, h1, h2 => by
    have : k = 0 := by omega
    subst this
    cases g <;> simp [digits]
  | f + 1, 0, k, acc, h1, h2 => by
    have : k = 0 := by omega
    subst this
    simp [digits]
  | f + 1, g + 1, k, acc, h1, h2 => by
    unfold digits
    split
    · rfl
    · exact digits_more f g (k / 10) _ (by omega) (by omega)
theorem digits_step (k : Nat) (acc : List UInt8) (h : 0 < k) : digits k k acc = digits (k / 10) (k / 10) (UInt8.ofNat (48 + k % 10) :: acc) := by
  match k, h with
  | k + 1, _ =>
    conv => lhs; unfold digits
    rw [if_neg (by omega)]
    exact digits_more _ _ _ _ (by omega) (Nat.le_refl _)
theorem u8_add (x : Nat) : UInt8.ofNat (48 + (x : Int) % 10).toNat = 48 + UInt8.ofNat (x % 10) := by
  have : (48 + (x : Int) % 10).toNat = 48 + x % 10 := by omega
  rw [this, UInt8.ofNat_add]
  rfl
theorem markText_does (k : Int) (M : Mem) (R : Value → Mem → Prop) (hk : k ≤ 4611686018427387904) (h : R (str (markT k)) M) : Does Try.prog 96 [.int .i64 k] M R := by
  refine does_fn tab_ok Try.func96 rfl (by kernel_rfl) (by kernel_rfl) Try.ntmps96 Try.results96 rfl ?_
  by_cases h0 : k ≤ 0
  · simp (disch := omega) [h0]
    refine ret_of ?_
    unfold markT at h
    rw [if_pos h0] at h
    exact h
  · unfold markT at h
    rw [if_neg h0] at h
    simp (disch := omega) [h0]
    refine loop_to tab_ok [0, 3, 6, 7, 8, 9, 10, 11, 12, 13, 14, 15, 16, 17] (fun x : Nat × List UInt8 => [(0, .int .i64 x.1), (3, str x.2)]) (fun x M' => M' = M ∧ (x.1 : Int) ≤ k ∧ digits x.1 x.1 x.2 = digits k.toNat k.toNat [] ∧ x.2.length + x.1 ≤ k.toNat) (fun x => x.1) (k.toNat, []) (by kernel_rfl) (by simp (disch := omega); omega) ⟨rfl, by omega, rfl, by simp⟩ ?_
    rintro ⟨x, acc⟩ M' g ⟨rfl, hx, hd, hl⟩
    simp only at hx hd hl
    by_cases hp : 0 < x
    · have hm : (x : Int).tmod 10 = x % 10 := by rw [Int.tmod_eq_emod_of_nonneg (by omega)]
      have hq : (x : Int).tdiv 10 = x / 10 := by rw [Int.tdiv_eq_ediv_of_nonneg (by omega)]
      simp (disch := omega) [hm, hq]
      intro b hb
      simp (disch := omega) [hm, hq]
      refine Rnd.mk'' M' (x / 10, UInt8.ofNat (48 + x % 10) :: acc) (Sub.put (Sub.refl _) hb _) (by simp only; omega) (by (repeat (first | exact km | refine kp rfl ?_ | refine km' rfl ?_))) ?_ ⟨rfl, by simp only; omega, ?_, ?_⟩
      · simp (disch := omega) [u8_add]
      · rw [← hd]; exact (digits_step x acc hp).symm
      · simp only [List.length_cons]; omega
    · have hx0 : x = 0 := by omega
      subst hx0
      simp (disch := omega)
      refine ret_of ?_
      rw [← hd] at h
      exact h
theorem markInt64S_does (v : Value) (xs : List Value) (k : Int) (M M1 : Mem) (R : Value → Mem → Prop) (hv : Own M v xs M1) (hl : xs.length ≤ 1099511627776) (h0 : 0 ≤ k) (hk : k ≤ 1099511627776)
    (h : ∀ M2, Own M v (markI k xs.length) M2 → R (.int .i64 (k + xs.length)) M2) : Does Try.prog 47 [v, .int .i64 k] M1 R := by
  refine does_fn tab_ok Try.func47 rfl (by kernel_rfl) (by kernel_rfl) Try.ntmps47 Try.results47 rfl ?_
  rcases hv with ⟨rfl, rfl, rfl⟩ | ⟨b, c, rfl, hb, hc, rfl⟩
  · simp (disch := omega)
    refine loop_to tab_ok [1, 5, 6, 7, 8, 9, 10, 11, 12, 13, 14, 15, 16, 17] (fun i : Nat => [(5, .int .i64 i), (1, .int .i64 (k + i))]) (fun i M' => M' = M1 ∧ i = 0) (fun i => 0) 0 (by kernel_rfl) (by simp (disch := omega)) ⟨rfl, rfl⟩ ?_
    rintro i M' g ⟨rfl, rfl⟩
    simp (disch := omega)
    have := h M' (by rw [show (markI k ([] : List Value).length) = [] from rfl]; exact Own.nil _)
    exact ret_of (by simpa using this)
  · simp (disch := omega)
    refine loop_to tab_ok [1, 5, 6, 7, 8, 9, 10, 11, 12, 13, 14, 15, 16, 17] (fun i : Nat => [(5, .int .i64 i), (1, .int .i64 (k + i))]) (fun i M' => i ≤ xs.length ∧ M' = M.put b (.cells true (markI k i ++ xs.drop i) c)) (fun i => xs.length - i) 0 (by kernel_rfl) (by simp (disch := omega)) ⟨by omega, by simp [markI]⟩ ?_
    rintro i M' g ⟨hi, rfl⟩
    by_cases hlt : i < xs.length
    · simp (disch := omega)
      refine Rnd.mk' (i + 1) (by omega) (by (repeat (first | exact km | refine kp rfl ?_ | refine km' rfl ?_))) (by simp (disch := omega); omega) ⟨by omega, ?_⟩
      rw [List.drop_eq_getElem_cons hlt]
      have := set_mid (markI k i) (xs.drop (i + 1)) xs[i] (.int .i64 (k + i))
      rw [markI_length] at this
      rw [this, markI_succ]
      simp
    · have hi' : i = xs.length := by omega
      subst hi'
      simp (disch := omega)
      refine ret_of ?_
      have := h _ (Own.new hb (markI_length k xs.length) hc)
      simpa using this
theorem heldInt64S_does (v : Value) (n : Nat) (k : Int) (M : Mem) (R : Value → Mem → Prop) (hv : Rd M v (markI k n)) (hl : n ≤ 1099511627776) (h0 : 0 ≤ k) (hk : k ≤ 1099511627776)
    (h : R (.int .i64 (k + n)) M) : Does Try.prog 48 [v, .int .i64 k] M R := by
  refine does_fn tab_ok Try.func48 rfl (by kernel_rfl) (by kernel_rfl) Try.ntmps48 Try.results48 rfl ?_
  have hv' : ∃ a c, v = .slice a n c ∧ (n = 0 ∨ ∃ b o, a = some ⟨b, o, none⟩ ∧ M.sub? b o (markI k n).length = some (markI k n)) := by
    rcases hv with ⟨a0, c0, rfl, h2⟩ | ⟨b, o, c, rfl, h2, h3⟩
    · have : n = 0 := by have := congrArg List.length h2; simpa using this
      exact ⟨a0, c0, by rw [this], .inl this⟩
    · exact ⟨_, c, by rw [markI_length], .inr ⟨b, o, rfl, h2⟩⟩
  obtain ⟨a, c, rfl, ha⟩ := hv'
  simp (disch := omega)
  refine loop_to tab_ok [1, 4, 5, 6, 7, 8, 9, 10, 11, 12, 13, 14, 15, 16, 17, 18, 19] (fun i : Nat => [(5, .int .i64 i), (1, .int .i64 (k + i))]) (fun i M' => M' = M ∧ i ≤ n) (fun i => n - i) 0 (by kernel_rfl) (by simp (disch := omega)) ⟨rfl, by omega⟩ ?_
  rintro i M' g ⟨rfl, hi⟩
  by_cases hlt : i < n
  · rcases ha with h0 | ⟨b, o, rfl, hs⟩
    · omega
    have hg := sub_get hs (markI_get k hlt)
    simp (disch := omega) [hg]
    refine Rnd.mk' (i + 1) (by omega) (by (repeat (first | exact km | refine kp rfl ?_ | refine km' rfl ?_))) (by simp (disch := omega); omega) ⟨rfl, by omega⟩
  · have hi' : i = n := by omega
    subst hi'
    simp (disch := omega)
    exact ret_of h
theorem markStringS_does (v : Value) (xs : List Value) (k : Int) (M M1 : Mem) (R : Value → Mem → Prop) (hv : Own M v xs M1) (hl : xs.length ≤ 1099511627776) (h0 : 0 ≤ k) (hk : k ≤ 1099511627776)
    (h : ∀ M2, Own M v (markS k xs.length) M2 → R (.int .i64 (k + xs.length)) M2) : Does Try.prog 27 [v, .int .i64 k] M1 R := by
  refine does_fn tab_ok Try.func27 rfl (by kernel_rfl) (by kernel_rfl) Try.ntmps27 Try.results27 rfl ?_
  rcases hv with ⟨rfl, rfl, rfl⟩ | ⟨b, c, rfl, hb, hc, rfl⟩
  · simp (disch := omega)
    refine loop_to tab_ok [1, 5, 6, 7, 8, 9, 10, 11, 12, 13, 14, 15, 16, 17, 18] (fun i : Nat => [(5, .int .i64 i), (1, .int .i64 (k + i))]) (fun i M' => M' = M1 ∧ i = 0) (fun i => 0) 0 (by kernel_rfl) (by simp (disch := omega)) ⟨rfl, rfl⟩ ?_
    rintro i M' g ⟨rfl, rfl⟩
    simp (disch := omega)
    have := h M' (by rw [show (markS k ([] : List Value).length) = [] from rfl]; exact Own.nil _)
    exact ret_of (by simpa using this)
  · simp (disch := omega)
    refine loop_to tab_ok [1, 5, 6, 7, 8, 9, 10, 11, 12, 13, 14, 15, 16, 17, 18] (fun i : Nat => [(5, .int .i64 i), (1, .int .i64 (k + i))]) (fun i M' => i ≤ xs.length ∧ M' = M.put b (.cells true (markS k i ++ xs.drop i) c)) (fun i => xs.length - i) 0 (by kernel_rfl) (by simp (disch := omega)) ⟨by omega, by simp [markS]⟩ ?_
    rintro i M' g ⟨hi, rfl⟩
    by_cases hlt : i < xs.length
    · simp (disch := omega)
      refine markText_does _ _ _ (by omega) ?_
      simp (disch := omega)
      refine Rnd.mk' (i + 1) (by omega) (by (repeat (first | exact km | refine kp rfl ?_ | refine km' rfl ?_))) (by simp (disch := omega); omega) ⟨by omega, ?_⟩
      rw [List.drop_eq_getElem_cons hlt]
      have := set_mid (markS k i) (xs.drop (i + 1)) xs[i] (str (markT (k + i)))
      rw [markS_length] at this
      rw [this, markS_succ]
      simp
    · have hi' : i = xs.length := by omega
      subst hi'
      simp (disch := omega)
      refine ret_of ?_
      have := h _ (Own.new hb (markS_length k xs.length) hc)
      simpa using this
theorem heldStringS_does (v : Value) (n : Nat) (k : Int) (M : Mem) (R : Value → Mem → Prop) (hv : Rd M v (markS k n)) (hl : n ≤ 1099511627776) (h0 : 0 ≤ k) (hk : k ≤ 1099511627776)
    (h : R (.int .i64 (k + n)) M) : Does Try.prog 28 [v, .int .i64 k] M R := by
  refine does_fn tab_ok Try.func28 rfl (by kernel_rfl) (by kernel_rfl) Try.ntmps28 Try.results28 rfl ?_
  have hv' : ∃ a c, v = .slice a n c ∧ (n = 0 ∨ ∃ b o, a = some ⟨b, o, none⟩ ∧ M.sub? b o (markS k n).length = some (markS k n)) := by
    rcases hv with ⟨a0, c0, rfl, h2⟩ | ⟨b, o, c, rfl, h2, h3⟩
    · have : n = 0 := by have := congrArg List.length h2; simpa using this
      exact ⟨a0, c0, by rw [this], .inl this⟩
    · exact ⟨_, c, by rw [markS_length], .inr ⟨b, o, rfl, h2⟩⟩
  obtain ⟨a, c, rfl, ha⟩ := hv'
  simp (disch := omega)
  refine loop_to tab_ok [1, 4, 5, 6, 7, 8, 9, 10, 11, 12, 13, 14, 15, 16, 17, 18, 19, 20] (fun i : Nat => [(5, .int .i64 i), (1, .int .i64 (k + i))]) (fun i M' => M' = M ∧ i ≤ n) (fun i => n - i) 0 (by kernel_rfl) (by simp (disch := omega)) ⟨rfl, by omega⟩ ?_
  rintro i M' g ⟨rfl, hi⟩
  by_cases hlt : i < n
  · rcases ha with h0 | ⟨b, o, rfl, hs⟩
    · omega
    have hg := sub_get hs (markS_get k hlt)
    simp (disch := omega)
    refine draw_to tab_ok (by kernel_rfl) (by kernel_rfl) (by rfl) ?_
    simp (disch := omega) [hg]
    refine vQCall_at (a := []) (c := []) (markText_does _ _ _ (by omega) ⟨rfl, rfl⟩) ?_
    simp (disch := omega) [hg]
    refine Rnd.mk' (i + 1) (by omega) (by (repeat (first | exact km | refine kp rfl ?_ | refine km' rfl ?_))) (by simp (disch := omega); omega) ⟨rfl, by omega⟩
  · have hi' : i = n := by omega
    subst hi'
    simp (disch := omega)
    exact ret_of h
end Go.Proofs.Ytbefijbmgmbphaa

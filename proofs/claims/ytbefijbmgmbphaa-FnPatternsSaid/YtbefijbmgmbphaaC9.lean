/- Contracts: lists of lists of numbers: equality, marks. -/
import Derived.Test.YtbefijbmgmbphaaC7
namespace Go.Proofs.Ytbefijbmgmbphaa
open Go
set_option linter.unusedSimpArgs false
set_option linter.unusedVariables false

/-- Lists, each in a block of its own. -/
inductive RowsOf (M : Mem) : List Value → List (List Int) → Mem → Prop
  | nil : RowsOf M [] [] M
  | more {rs : List Value} {rows : List (List Int)} {N : Mem} {b c : Nat} {r : List Int} (cc : Nat) (x : List Value) (h : RowsOf M rs rows N) (hb : N b = none) (hc : r.length ≤ cc) :
    RowsOf M (rs ++ [.slice (some ⟨b, 0, none⟩) r.length cc]) (rows ++ [r]) (N.put b (.cells true (ints r ++ x) c))
theorem RowsOf.snoc {M : Mem} {rs : List Value} {rows : List (List Int)} {N : Mem} {b c : Nat} {r : List Int} (h : RowsOf M rs rows N) (hb : N b = none) (hc : r.length ≤ c) :
    RowsOf M (rs ++ [.slice (some ⟨b, 0, none⟩) r.length c]) (rows ++ [r]) (N.put b (.cells true (ints r) c)) := by
  have := h.more (c := c) c [] hb hc
  rw [List.append_nil] at this
  exact this
theorem RowsOf.sub {M N : Mem} {rs : List Value} {rows : List (List Int)} (h : RowsOf M rs rows N) : Sub M N := by
  induction h with
  | nil => exact Sub.refl _
  | more cc x h hb hc ih => exact ih.putN hb _
theorem RowsOf.len {M N : Mem} {rs : List Value} {rows : List (List Int)} (h : RowsOf M rs rows N) : rs.length = rows.length := by
  induction h with
  | nil => rfl
  | more cc x h hb hc ih => rw [List.length_append, List.length_append, ih]; rfl
theorem RowsOf.base {M M' N : Mem} {rs : List Value} {rows : List (List Int)} (h : RowsOf M' rs rows N) (hs : Sub M M') : ∃ N2, RowsOf M rs rows N2 ∧ Sub N2 N := by
  induction h with
  | nil => exact ⟨M, .nil, hs⟩
  | more cc x h hb hc ih =>
    obtain ⟨N2, h1, h2⟩ := ih
    exact ⟨_, h1.more cc x (none_of h2 hb) hc, h2.both _ _⟩
theorem RowsOf.flat {M N : Mem} {rs : List Value} {rows : List (List Int)} (h : RowsOf M rs rows N) : ∀ v ∈ rs, flatV v = true := by
  induction h with
  | nil => intro v hv; cases hv
  | more cc x h hb hc ih =>
    intro v hv
    rcases List.mem_append.1 hv with hv | hv
    · exact ih v hv
    · rw [List.mem_singleton.1 hv]; rfl
/-- The i-th list's block. -/
theorem RowsOf.at {M N : Mem} {rs : List Value} {rows : List (List Int)} (h : RowsOf M rs rows N) : ∀ (i : Nat) (r : List Int), rows[i]? = some r → ∃ b c cc x, rs[i]? = some (.slice (some ⟨b, 0, none⟩) r.length cc) ∧ N b = some (.cells true (ints r ++ x) c) ∧ r.length ≤ cc ∧ M b = none := by
  induction h with
  | nil => intro i r h; simp at h
  | @more rs rows N b c r cc x h hb hc ih =>
    intro i r' hi
    rcases Nat.lt_trichotomy i rows.length with hlt | heq | hgt
    · rw [List.getElem?_append_left hlt] at hi
      obtain ⟨b', c', cc', x', h1, h2, h3, h4⟩ := ih i r' hi
      refine ⟨b', c', cc', x', by rw [List.getElem?_append_left (by rw [h.len]; exact hlt), h1], ?_, h3, h4⟩
      rw [put_ne _ _ (by rintro rfl; rw [hb] at h2; cases h2), h2]
    · subst heq
      rw [List.getElem?_append_right (Nat.le_refl _), Nat.sub_self] at hi
      injection hi with hi
      subst hi
      refine ⟨b, c, cc, x, ?_, put_same _ _ _, hc, none_of h.sub hb⟩
      rw [List.getElem?_append_right (by rw [h.len]; exact Nat.le_refl _), h.len, Nat.sub_self]; rfl
    · rw [List.getElem?_eq_none (by rw [List.length_append, List.length_singleton]; omega)] at hi
      cases hi
theorem put_swap (M : Mem) {a b : Nat} (h : a ≠ b) (A B : Blk) : (M.put a A).put b B = (M.put b B).put a A := by
  funext i
  simp only [Mem.put]
  by_cases h1 : i = b
  · rw [if_pos h1, if_neg (by rw [h1]; exact Ne.symm h), if_pos h1]
  · rw [if_neg h1, if_neg h1]
/-- Another list in the i-th block. -/
theorem RowsOf.upd {M N : Mem} {rs : List Value} {rows : List (List Int)} (h : RowsOf M rs rows N) : ∀ (i : Nat) (r r' : List Int) (b c cc : Nat) (x : List Value), rows[i]? = some r → rs[i]? = some (.slice (some ⟨b, 0, none⟩) r.length cc) → N b = some (.cells true (ints r ++ x) c) → r'.length = r.length →
    RowsOf M rs (rows.set i r') (N.put b (.cells true (ints r' ++ x) c)) := by
  induction h with
  | nil => intro i r r' b c cc x h; simp at h
  | @more rs rows N b0 c0 r0 cc0 x0 h hb hc ih =>
    intro i r r' b c cc x hi hr hN hl
    rcases Nat.lt_trichotomy i rows.length with hlt | heq | hgt
    · rw [List.getElem?_append_left hlt] at hi
      rw [List.getElem?_append_left (by rw [h.len]; exact hlt)] at hr
      obtain ⟨b1, c1, cc1, x1, k1, k2, _, _⟩ := h.at i r hi
      have e : b1 = b := by rw [k1] at hr; injection hr with hr; injection hr with hr; injection hr with hr; injection hr
      have hne : b0 ≠ b := by rintro rfl; rw [← e] at hb; rw [hb] at k2; cases k2
      rw [List.set_append_left _ _ hlt, put_swap _ hne]
      rw [put_ne _ _ (Ne.symm hne)] at hN
      exact (ih i r r' b c cc x hi hr hN hl).more cc0 x0 (by rw [put_none]; exact ⟨hne, hb⟩) hc
    · subst heq
      rw [List.getElem?_append_right (Nat.le_refl _), Nat.sub_self] at hi
      injection hi with hi
      subst hi
      rw [List.getElem?_append_right (by rw [h.len]; exact Nat.le_refl _), h.len, Nat.sub_self] at hr
      injection hr with hr
      injection hr with h1 h2 h3
      injection h1 with h1
      injection h1 with h1
      subst h1; subst h3
      rw [put_same] at hN
      injection hN with hN
      injection hN with q1 q2 q3
      have q4 := List.append_cancel_left q2
      subst q3; subst q4
      rw [List.set_append_right _ _ (Nat.le_refl _), Nat.sub_self, put_put]
      have := h.more (c := c0) cc0 x0 hb (r := r') (by rw [hl]; exact hc)
      rw [hl] at this
      exact this
    · rw [List.getElem?_eq_none (by rw [List.length_append, List.length_singleton]; omega)] at hi
      cases hi
/-- A list of lists, to be read. -/
def RdSS (M : Mem) (v : Value) (rows : List (List Int)) : Prop := ∃ rs : List Value, Rd M v rs ∧ rs.length = rows.length ∧ ∀ (i : Nat) (r : List Int), rows[i]? = some r → ∃ x : Value, rs[i]? = some x ∧ Rd M x (ints r)
theorem RdSS.sub {M N : Mem} {v : Value} {rows : List (List Int)} (h : RdSS M v rows) (hs : Sub M N) : RdSS N v rows := by
  obtain ⟨rs, h1, h2, h3⟩ := h
  refine ⟨rs, h1.sub hs, h2, fun i r hi => ?_⟩
  obtain ⟨x, h4, h5⟩ := h3 i r hi
  exact ⟨x, h4, h5.sub hs⟩
theorem rdSS_of {M N M' : Mem} {v : Value} {rs : List Value} {rows : List (List Int)} (h : RowsOf M rs rows N) (ho : Own N v rs M') : RdSS M' v rows := by
  refine ⟨rs, ho.rd, h.len, fun i r hi => ?_⟩
  obtain ⟨b, c, cc, x, h1, h2, h3, _⟩ := h.at i r hi
  refine ⟨_, h1, ?_⟩
  have : Rd N (.slice (some ⟨b, 0, none⟩) r.length cc) (ints r) := by
    refine .inr ⟨b, 0, cc, by rw [ints_length], ?_, by rw [ints_length]; exact h3⟩
    rw [sub_of h2, optIf, if_pos (by rw [List.length_append]; omega), List.drop_zero, List.take_left]
  exact this.sub ho.sub
def markL (k : Int) (n : Nat) : List Int := (List.range n).map fun (j : Nat) => k + j
theorem markI_ints (k : Int) (n : Nat) : markI k n = ints (markL k n) := by simp [markI, markL, ints]
@[simp] theorem markL_length (k : Int) (n : Nat) : (markL k n).length = n := by simp [markL]
/-- The lists marked one after the other. -/
def markR : Int → List (List Int) → List (List Int)
  | _, [] => []
  | k, r :: rows => markL k r.length :: markR (k + r.length) rows
def sizes (rows : List (List Int)) : Nat := (rows.map List.length).sum
theorem markR_length : ∀ (k : Int) (rows : List (List Int)), (markR k rows).length = rows.length
  | _, [] => rfl
  | k, r :: rows => by simp only [markR, List.length_cons, markR_length _ rows]
theorem markR_snoc : ∀ (k : Int) (rows : List (List Int)) (r : List Int), markR k (rows ++ [r]) = markR k rows ++ [markL (k + sizes rows) r.length]
  | k, [], r => by simp [markR, sizes]
  | k, a :: rows, r => by
    have e : k + a.length + sizes rows = k + sizes (a :: rows) := by simp only [sizes, List.map_cons, List.sum_cons]; push_cast; omega
    simp only [List.cons_append, markR, markR_snoc _ rows r, e]
theorem sizes_snoc (rows : List (List Int)) (r : List Int) : sizes (rows ++ [r]) = sizes rows + r.length := by simp [sizes]
theorem sizes_take (rows : List (List Int)) (i : Nat) : sizes (rows.take i) ≤ sizes rows := by
  have h1 : sizes (rows.take i ++ rows.drop i) = sizes (rows.take i) + sizes (rows.drop i) := by simp only [sizes, List.map_append, List.sum_append]
  rw [List.take_append_drop] at h1
  omega
theorem markP_does (b : Nat) (xs x : List Value) (k : Int) (c cc : Nat) (M1 : Mem) (R : Value → Mem → Prop) (hb : M1 b = some (.cells true (xs ++ x) c)) (hl : xs.length ≤ 1099511627776) (h0 : 0 ≤ k) (hk : k ≤ 1099511627776)
    (h : R (.int .i64 (k + xs.length)) (M1.put b (.cells true (markI k xs.length ++ x) c))) : Does Try.prog 47 [.slice (some ⟨b, 0, none⟩) xs.length cc, .int .i64 k] M1 R := by
  refine does_fn tab_ok Try.func47 rfl (by kernel_rfl) (by kernel_rfl) Try.ntmps47 Try.results47 rfl ?_
  simp (disch := omega)
  refine loop_to tab_ok [1, 5, 6, 7, 8, 9, 10, 11, 12, 13, 14, 15, 16, 17] (fun i : Nat => [(5, .int .i64 i), (1, .int .i64 (k + i))]) (fun i M' => i ≤ xs.length ∧ M' = M1.put b (.cells true (markI k i ++ (xs.drop i ++ x)) c)) (fun i => xs.length - i) 0 (by kernel_rfl) (by simp (disch := omega)) ⟨by omega, by
    have e : markI k 0 ++ (xs.drop 0 ++ x) = xs ++ x := by simp [markI]
    rw [e]
    funext j
    simp only [Mem.put]
    split
    · rename_i hj; rw [hj, hb]
    · rfl⟩ ?_
  rintro i M' g ⟨hi, rfl⟩
  by_cases hlt : i < xs.length
  · simp (disch := omega)
    refine Rnd.mk' (i + 1) (by omega) (by (repeat (first | exact km | refine kp rfl ?_ | refine km' rfl ?_))) (by simp (disch := omega); omega) ⟨by omega, ?_⟩
    rw [List.drop_eq_getElem_cons hlt]
    have := set_mid (markI k i) (xs.drop (i + 1) ++ x) xs[i] (.int .i64 (k + i))
    rw [markI_length] at this
    rw [List.cons_append, this, markI_succ]
    simp
  · have hi' : i = xs.length := by omega
    subst hi'
    simp (disch := omega)
    exact ret_of h
theorem base_SS {M M' N M1 : Mem} {v : Value} {rs : List Value} {rows : List (List Int)} (h : RowsOf M' rs rows N) (ho : Own N v rs M1) (hs : Sub M M') : ∃ N2 M2, RowsOf M rs rows N2 ∧ Own N2 v rs M2 ∧ Sub M2 M1 := by
  obtain ⟨N2, h1, h2⟩ := h.base hs
  obtain ⟨M2, h3, h4⟩ := ho.base h2
  exact ⟨N2, M2, h1, h3, h4⟩
/-- A list of lists and its code. -/
def LstSS (c : Int) (rows : List (List Int)) (M : Mem) (R : Value → Mem → Prop) : Prop := ∀ v rs N M', RowsOf M rs rows N → Own N v rs M' → R (.tuple #[v, .int .i64 c]) M'
end Go.Proofs.Ytbefijbmgmbphaa

/- Merged: C7 C8 C9 C10 C11. -/
import Derived.Test.YthpcojnpiggaiaaGreatCA
/-! Contracts: desks and morphisms as values: new ones, equality, marks. -/
namespace Go.Proofs.YthpcojnpiggaiaaGreat
open Go
set_option linter.unusedSimpArgs false
set_option linter.unusedVariables false

theorem Own.push {M M' : Mem} {v : Value} {xs : List Value} (h : Own M v xs M') {b : Nat} (hb : M' b = none) (B : Blk) : Own (M.put b B) v xs (M'.put b B) := by
  rcases h with ⟨rfl, rfl, rfl⟩ | ⟨b', c, rfl, hM, hc, rfl⟩
  · exact Own.nil _
  · have hne : b ≠ b' := by rintro rfl; rw [put_same] at hb; cases hb
    refine .inr ⟨b', c, rfl, by rw [put_none]; exact ⟨Ne.symm hne, hM⟩, hc, ?_⟩
    funext i
    simp only [Mem.put]
    by_cases h1 : i = b
    · rw [if_pos h1, if_neg (by rw [h1]; exact hne), if_pos h1]
    · rw [if_neg h1, if_neg h1]
theorem set_is (M : Mem) (b : Nat) (B : Blk) : M.set b B = M.put b B := rfl
/-- Writing another block. -/
theorem Own.other {M M' : Mem} {v : Value} {xs : List Value} {b : Nat} {B0 : Blk} (h : Own M v xs M') (hb : M b = some B0) (B : Blk) : Own (M.put b B) v xs (M'.put b B) := by
  rcases h with ⟨rfl, rfl, rfl⟩ | ⟨b', c, rfl, hM, hc, rfl⟩
  · exact Own.nil _
  · have hne : b ≠ b' := by rintro rfl; rw [hM] at hb; cases hb
    refine .inr ⟨b', c, rfl, by rw [put_none]; exact ⟨Ne.symm hne, hM⟩, hc, ?_⟩
    funext i
    simp only [Mem.put]
    by_cases h1 : i = b
    · rw [if_pos h1, if_neg (by rw [h1]; exact hne), if_pos h1]
    · rw [if_neg h1, if_neg h1]
theorem put_put (M : Mem) (b : Nat) (A B : Blk) : (M.put b A).put b B = M.put b B := by
  funext i; simp only [Mem.put]; split <;> rfl
def deskV (w p : List UInt8) (v : Value) : Value := .agg #[str w, str p, v]
end Go.Proofs.YthpcojnpiggaiaaGreat
/-! Contracts: abelian powers. -/
namespace Go.Proofs.YthpcojnpiggaiaaGreat
open Go
set_option linter.unusedSimpArgs false
set_option linter.unusedVariables false

def seg (w : List UInt8) (a m : Nat) : List UInt8 := (w.take (a + m)).drop a
theorem seg_len {w : List UInt8} {a m : Nat} (h : a + m ≤ w.length) : (seg w a m).length = m := by unfold seg; rw [List.length_drop, List.length_take]; omega
theorem seg_all {w : List UInt8} (h : w.all isL = true) (a m : Nat) : (seg w a m).all isL = true := by
  rw [List.all_eq_true] at *
  intro u hu
  exact h u (List.mem_of_mem_take (List.mem_of_mem_drop hu))
theorem seg_seg {w : List UInt8} {i n a m : Nat} (h : a + m ≤ n) : seg (seg w i n) a m = seg w (i + a) m := by
  unfold seg
  rw [List.take_drop, List.take_take, List.drop_drop, Nat.min_eq_left (by omega), Nat.add_assoc]
theorem seg_zero (w : List UInt8) (m : Nat) : seg w 0 m = w.take m := by simp [seg]
theorem seg_int {w : List UInt8} {a m : Nat} : (w.take ((a : Int) + m).toNat).drop a = seg w a m := by unfold seg; rw [show ((a : Int) + m).toNat = a + m by omega]
/-- Do the first j parts of a length have the counts of the first one? -/
def alikeTo (l : List UInt8) (m j : Nat) : Bool := (List.range j).all fun i => counts (seg l (i * m) m) == counts (seg l 0 m)
theorem alikeTo_succ (l : List UInt8) (m j : Nat) : alikeTo l m (j + 1) = (alikeTo l m j && (counts (seg l (j * m) m) == counts (seg l 0 m))) := by simp [alikeTo, List.range_succ]
theorem alikeTo_one (l : List UInt8) (m : Nat) : alikeTo l m 1 = true := by simp [alikeTo]
theorem alikeTo_no {l : List UInt8} {m j k : Nat} (hj : j < k) (h : (counts (seg l (j * m) m) == counts (seg l 0 m)) = false) : alikeTo l m k = false := by
  unfold alikeTo
  rw [List.all_eq_false]
  exact ⟨j, List.mem_range.2 hj, by rw [h]; simp⟩
def abel (w : List UInt8) (i m k : Nat) : Bool := alikeTo (seg w i (k * m)) m k
theorem isAbelian_does (l : List UInt8) (m k : Nat) (mi : Int) (hmi : mi = m) (M : Mem) (R : Value → Mem → Prop) (hl : l.length = k * m) (hl' : l.length ≤ 60) (hm : 1 ≤ m) (hk : 1 ≤ k) (hw : l.all isL = true)
    (h : R (.bool (alikeTo l m k)) M) : Does Tryz.prog 118 [str l, .int .i64 mi] M R := by
  subst hmi
  refine does_fn tab_ok Tryz.func118 rfl (by kernel_rfl) (by kernel_rfl) Tryz.ntmps118 Tryz.results118 rfl ?_
  have hml : m ≤ l.length := by rw [hl]; exact Nat.le_mul_of_pos_left _ hk
  simp (disch := omega)
  refine loop_to tab_ok [4, 5, 7, 8, 9, 10, 11, 12, 13, 14, 15, 16, 17, 18, 19, 20, 21, 22, 23, 24] (fun x : Nat × Nat => [(5, .int .i64 x.2)]) (fun x M' => M' = M ∧ x.1 ≤ k ∧ x.2 = x.1 * m ∧ alikeTo l m x.1 = true) (fun x => k - x.1) (1, m) (by kernel_rfl) (by simp (disch := omega)) ⟨rfl, hk, by simp, alikeTo_one l m⟩ ?_
  rintro ⟨j, t⟩ M' g ⟨rfl, hj, ht, ha⟩
  simp only at hj ht ha
  by_cases hlt : j < k
  · have h1 : t + m ≤ l.length := by rw [ht, hl, ← Nat.succ_mul]; exact Nat.mul_le_mul_right _ hlt
    have h2 : (t : Int) < l.length := by omega
    have hseg := seg_int (w := l) (a := t) (m := m)
    have hs0 : List.take m l = seg l 0 m := (seg_zero l m).symm
    have n1 := seg_len h1
    have n2 := seg_len (w := l) (a := 0) (m := m) (by omega)
    simp (disch := omega) [h2]
    refine draw_to tab_ok (by kernel_rfl) (by kernel_rfl) (by rfl) ?_
    simp (disch := omega) [hseg, hs0]
    refine vQCall_at (a := []) (c := []) (impl_areAlike_does _ _ _ _ (by omega) (by omega) (seg_all hw _ _) (seg_all hw _ _) ⟨rfl, rfl⟩) ?_
    have hsym : (counts (seg l 0 m) == counts (seg l t m)) = (counts (seg l t m) == counts (seg l 0 m)) := Bool.eq_iff_iff.2 ⟨fun e => by rw [beq_iff_eq] at *; exact e.symm, fun e => by rw [beq_iff_eq] at *; exact e.symm⟩
    cases hc : (counts (seg l t m) == counts (seg l 0 m))
    · rw [hc] at hsym
      rw [alikeTo_no hlt (by rw [← ht]; exact hc)] at h
      simp (disch := omega) [hsym]
      exact ret_of h
    · rw [hc] at hsym
      simp (disch := omega) [hsym]
      refine Rnd.mk' (j + 1, t + m) (by simp only; omega) (by (repeat (first | exact km | refine kp rfl ?_ | refine km' rfl ?_))) (by simp (disch := omega)) ⟨rfl, by simp only; omega, by simp only; rw [ht, Nat.succ_mul], ?_⟩
      simp only
      rw [alikeTo_succ, ha, ← ht, hc]; rfl
  · have hj' : j = k := by omega
    subst hj'
    have h2 : ¬ (t : Int) < l.length := by rw [hl, ht]; omega
    rw [ha] at h
    simp (disch := omega) [h2]
    exact ret_of h
end Go.Proofs.YthpcojnpiggaiaaGreat
/-! Contracts: lists of lists of numbers: equality, marks. -/
namespace Go.Proofs.YthpcojnpiggaiaaGreat
open Go
set_option linter.unusedSimpArgs false
set_option linter.unusedVariables false

/-- Lists, each in a block of its own. -/
inductive RowsOf (M : Mem) : List Value → List (List Int) → Mem → Prop
  | nil : RowsOf M [] [] M
  | more {rs : List Value} {rows : List (List Int)} {N : Mem} {b c : Nat} {r : List Int} (cc : Nat) (x : List Value) (h : RowsOf M rs rows N) (hb : N b = none) (hc : r.length ≤ cc) :
    RowsOf M (rs ++ [.slice (some ⟨b, 0, none⟩) r.length cc]) (rows ++ [r]) (N.put b (.cells true (ints r ++ x) c))
theorem RowsOf.snoc {M : Mem} {rs : List Value} {rows : List (List Int)} {N : Mem} {b c : Nat} {r : List Int} (h : RowsOf M rs rows N) (hb : N b = none) (hc : r.length ≤ c) :
    RowsOf M (rs ++ [.slice (some ⟨b, 0, none⟩) r.length c]) (rows ++ [r]) (N.put b (.cells true (ints r) c)) := by
  have := h.more (c := c) c [] hb hc
  rw [List.append_nil] at this
  exact this
theorem RowsOf.sub {M N : Mem} {rs : List Value} {rows : List (List Int)} (h : RowsOf M rs rows N) : Sub M N := by
  induction h with
  | nil => exact Sub.refl _
  | more cc x h hb hc ih => exact ih.putN hb _
theorem RowsOf.len {M N : Mem} {rs : List Value} {rows : List (List Int)} (h : RowsOf M rs rows N) : rs.length = rows.length := by
  induction h with
  | nil => rfl
  | more cc x h hb hc ih => rw [List.length_append, List.length_append, ih]; rfl
theorem RowsOf.base {M M' N : Mem} {rs : List Value} {rows : List (List Int)} (h : RowsOf M' rs rows N) (hs : Sub M M') : ∃ N2, RowsOf M rs rows N2 ∧ Sub N2 N := by
  induction h with
  | nil => exact ⟨M, .nil, hs⟩
  | more cc x h hb hc ih =>
    obtain ⟨N2, h1, h2⟩ := ih
    exact ⟨_, h1.more cc x (none_of h2 hb) hc, h2.both _ _⟩
theorem RowsOf.flat {M N : Mem} {rs : List Value} {rows : List (List Int)} (h : RowsOf M rs rows N) : ∀ v ∈ rs, flatV v = true := by
  induction h with
  | nil => intro v hv; cases hv
  | more cc x h hb hc ih =>
    intro v hv
    rcases List.mem_append.1 hv with hv | hv
    · exact ih v hv
    · rw [List.mem_singleton.1 hv]; rfl
/-- The i-th list's block. -/
theorem RowsOf.at {M N : Mem} {rs : List Value} {rows : List (List Int)} (h : RowsOf M rs rows N) : ∀ (i : Nat) (r : List Int), rows[i]? = some r → ∃ b c cc x, rs[i]? = some (.slice (some ⟨b, 0, none⟩) r.length cc) ∧ N b = some (.cells true (ints r ++ x) c) ∧ r.length ≤ cc ∧ M b = none := by
  induction h with
  | nil => intro i r h; simp at h
  | @more rs rows N b c r cc x h hb hc ih =>
    intro i r' hi
    rcases Nat.lt_trichotomy i rows.length with hlt | heq | hgt
    · rw [List.getElem?_append_left hlt] at hi
      obtain ⟨b', c', cc', x', h1, h2, h3, h4⟩ := ih i r' hi
      refine ⟨b', c', cc', x', by rw [List.getElem?_append_left (by rw [h.len]; exact hlt), h1], ?_, h3, h4⟩
      rw [put_ne _ _ (by rintro rfl; rw [hb] at h2; cases h2), h2]
    · subst heq
      rw [List.getElem?_append_right (Nat.le_refl _), Nat.sub_self] at hi
      injection hi with hi
      subst hi
      refine ⟨b, c, cc, x, ?_, put_same _ _ _, hc, none_of h.sub hb⟩
      rw [List.getElem?_append_right (by rw [h.len]; exact Nat.le_refl _), h.len, Nat.sub_self]; rfl
    · rw [List.getElem?_eq_none (by rw [List.length_append, List.length_singleton]; omega)] at hi
      cases hi
theorem put_swap (M : Mem) {a b : Nat} (h : a ≠ b) (A B : Blk) : (M.put a A).put b B = (M.put b B).put a A := by
  funext i
  simp only [Mem.put]
  by_cases h1 : i = b
  · rw [if_pos h1, if_neg (by rw [h1]; exact Ne.symm h), if_pos h1]
  · rw [if_neg h1, if_neg h1]
/-- Another list in the i-th block. -/
theorem RowsOf.upd {M N : Mem} {rs : List Value} {rows : List (List Int)} (h : RowsOf M rs rows N) : ∀ (i : Nat) (r r' : List Int) (b c cc : Nat) (x : List Value), rows[i]? = some r → rs[i]? = some (.slice (some ⟨b, 0, none⟩) r.length cc) → N b = some (.cells true (ints r ++ x) c) → r'.length = r.length →
    RowsOf M rs (rows.set i r') (N.put b (.cells true (ints r' ++ x) c)) := by
  induction h with
  | nil => intro i r r' b c cc x h; simp at h
  | @more rs rows N b0 c0 r0 cc0 x0 h hb hc ih =>
    intro i r r' b c cc x hi hr hN hl
    rcases Nat.lt_trichotomy i rows.length with hlt | heq | hgt
    · rw [List.getElem?_append_left hlt] at hi
      rw [List.getElem?_append_left (by rw [h.len]; exact hlt)] at hr
      obtain ⟨b1, c1, cc1, x1, k1, k2, _, _⟩ := h.at i r hi
      have e : b1 = b := by rw [k1] at hr; injection hr with hr; injection hr with hr; injection hr with hr; injection hr
      have hne : b0 ≠ b := by rintro rfl; rw [← e] at hb; rw [hb] at k2; cases k2
      rw [List.set_append_left _ _ hlt, put_swap _ hne]
      rw [put_ne _ _ (Ne.symm hne)] at hN
      exact (ih i r r' b c cc x hi hr hN hl).more cc0 x0 (by rw [put_none]; exact ⟨hne, hb⟩) hc
    · subst heq
      rw [List.getElem?_append_right (Nat.le_refl _), Nat.sub_self] at hi
      injection hi with hi
      subst hi
      rw [List.getElem?_append_right (by rw [h.len]; exact Nat.le_refl _), h.len, Nat.sub_self] at hr
      injection hr with hr
      injection hr with h1 h2 h3
      injection h1 with h1
      injection h1 with h1
      subst h1; subst h3
      rw [put_same] at hN
      injection hN with hN
      injection hN with q1 q2 q3
      have q4 := List.append_cancel_left q2
      subst q3; subst q4
      rw [List.set_append_right _ _ (Nat.le_refl _), Nat.sub_self, put_put]
      have := h.more (c := c0) cc0 x0 hb (r := r') (by rw [hl]; exact hc)
      rw [hl] at this
      exact this
    · rw [List.getElem?_eq_none (by rw [List.length_append, List.length_singleton]; omega)] at hi
      cases hi
/-- A list of lists, to be read. -/
def RdSS (M : Mem) (v : Value) (rows : List (List Int)) : Prop := ∃ rs : List Value, Rd M v rs ∧ rs.length = rows.length ∧ ∀ (i : Nat) (r : List Int), rows[i]? = some r → ∃ x : Value, rs[i]? = some x ∧ Rd M x (ints r)
theorem RdSS.sub {M N : Mem} {v : Value} {rows : List (List Int)} (h : RdSS M v rows) (hs : Sub M N) : RdSS N v rows := by
  obtain ⟨rs, h1, h2, h3⟩ := h
  refine ⟨rs, h1.sub hs, h2, fun i r hi => ?_⟩
  obtain ⟨x, h4, h5⟩ := h3 i r hi
  exact ⟨x, h4, h5.sub hs⟩
theorem rdSS_of {M N M' : Mem} {v : Value} {rs : List Value} {rows : List (List Int)} (h : RowsOf M rs rows N) (ho : Own N v rs M') : RdSS M' v rows := by
  refine ⟨rs, ho.rd, h.len, fun i r hi => ?_⟩
  obtain ⟨b, c, cc, x, h1, h2, h3, _⟩ := h.at i r hi
  refine ⟨_, h1, ?_⟩
  have : Rd N (.slice (some ⟨b, 0, none⟩) r.length cc) (ints r) := by
    refine .inr ⟨b, 0, cc, by rw [ints_length], ?_, by rw [ints_length]; exact h3⟩
    rw [sub_of h2, optIf, if_pos (by rw [List.length_append]; omega), List.drop_zero, List.take_left]
  exact this.sub ho.sub
def markL (k : Int) (n : Nat) : List Int := (List.range n).map fun (j : Nat) => k + j
theorem markI_ints (k : Int) (n : Nat) : markI k n = ints (markL k n) := by simp [markI, markL, ints]
@[simp] theorem markL_length (k : Int) (n : Nat) : (markL k n).length = n := by simp [markL]
/-- The lists marked one after the other. -/
def markR : Int → List (List Int) → List (List Int)
  | _, [] => []
  | k, r :: rows => markL k r.length :: markR (k + r.length) rows
def sizes (rows : List (List Int)) : Nat := (rows.map List.length).sum
theorem markR_length : ∀ (k : Int) (rows : List (List Int)), (markR k rows).length = rows.length
  | _, [] => rfl
  | k, r :: rows => by simp only [markR, List.length_cons, markR_length _ rows]
theorem markR_snoc : ∀ (k : Int) (rows : List (List Int)) (r : List Int), markR k (rows ++ [r]) = markR k rows ++ [markL (k + sizes rows) r.length]
  | k, [], r => by simp [markR, sizes]
  | k, a :: rows, r => by
    have e : k + a.length + sizes rows = k + sizes (a :: rows) := by simp only [sizes, List.map_cons, List.sum_cons]; push_cast; omega
    simp only [List.cons_append, markR, markR_snoc _ rows r, e]
theorem sizes_snoc (rows : List (List Int)) (r : List Int) : sizes (rows ++ [r]) = sizes rows + r.length := by simp [sizes]
theorem sizes_take (rows : List (List Int)) (i : Nat) : sizes (rows.take i) ≤ sizes rows := by
  have h1 : sizes (rows.take i ++ rows.drop i) = sizes (rows.take i) + sizes (rows.drop i) := by simp only [sizes, List.map_append, List.sum_append]
  rw [List.take_append_drop] at h1
  omega
theorem base_SS {M M' N M1 : Mem} {v : Value} {rs : List Value} {rows : List (List Int)} (h : RowsOf M' rs rows N) (ho : Own N v rs M1) (hs : Sub M M') : ∃ N2 M2, RowsOf M rs rows N2 ∧ Own N2 v rs M2 ∧ Sub M2 M1 := by
  obtain ⟨N2, h1, h2⟩ := h.base hs
  obtain ⟨M2, h3, h4⟩ := ho.base h2
  exact ⟨N2, M2, h1, h3, h4⟩
/-- A list of lists and its code. -/
def LstSS (c : Int) (rows : List (List Int)) (M : Mem) (R : Value → Mem → Prop) : Prop := ∀ v rs N M', RowsOf M rs rows N → Own N v rs M' → R (.tuple #[v, .int .i64 c]) M'
end Go.Proofs.YthpcojnpiggaiaaGreat
/-! Contracts: lists of abelian powers, of the reference and of the program. -/
namespace Go.Proofs.YthpcojnpiggaiaaGreat
open Go
set_option linter.unusedSimpArgs false
set_option linter.unusedVariables false

theorem l07Power_does (w : List UInt8) (i m k : Nat) (mi : Int) (hmi : mi = m) (M : Mem) (R : Value → Mem → Prop) (hl : w.length ≤ 60) (hi : i ≤ 60) (hm : 1 ≤ m) (hm' : m ≤ 60) (hk : 1 ≤ k) (hk' : k ≤ 60) (hw : w.all isL = true)
    (h : R (.bool (decide (i + k * m ≤ w.length) && abel w i m k)) M) : Does Tryz.prog 119 [str w, .int .i64 i, .int .i64 mi, .int .i64 k] M R := by
  subst hmi
  refine does_fn tab_ok Tryz.func119 rfl (by kernel_rfl) (by kernel_rfl) Tryz.ntmps119 Tryz.results119 rfl ?_
  obtain ⟨p, hp⟩ : ∃ p, p = k * m := ⟨_, rfl⟩
  have hp' : p ≤ 3600 := by rw [hp]; exact Nat.mul_le_mul hk' hm'
  have e0 : (m : Int) * k = p := by rw [hp, Nat.mul_comm]; push_cast; rfl
  have hmp : m ≤ p := by rw [hp]; exact Nat.le_mul_of_pos_left _ hk
  unfold abel at h
  rw [← hp] at h
  by_cases hle : i + p ≤ w.length
  · have hle' : ¬ (w.length : Int) < i + p := by omega
    rw [decide_eq_true hle, Bool.true_and] at h
    have hseg := seg_int (w := w) (a := i) (m := m)
    have n1 := seg_len (w := w) (a := i) (m := m) (by omega)
    simp (disch := omega) [e0, hle']
    simp only [hseg]
    refine l01Count_does (seg w i m) _ _ (by omega) (seg_all hw _ _) ?_
    intro v M1 o1
    simp (disch := omega)
    refine loop_to tab_ok [8, 10, 26, 27, 28, 29, 30, 31, 32, 33, 34, 35, 36, 37, 38, 39, 40, 41, 42, 43, 44, 45, 46, 47] (fun j : Nat => [(10, .int .i64 j)]) (fun j M' => M' = M1 ∧ 1 ≤ j ∧ j ≤ k ∧ alikeTo (seg w i p) m j = true) (fun j => k - j) 1 (by kernel_rfl) (by simp (disch := omega)) ⟨rfl, Nat.le_refl 1, hk, alikeTo_one _ _⟩ ?_
    rintro j M' g ⟨rfl, hj1, hj, ha⟩
    by_cases hlt : j < k
    · obtain ⟨t, ht⟩ : ∃ t, t = j * m := ⟨_, rfl⟩
      have e1 : (j : Int) * m = t := by rw [ht]; push_cast; rfl
      have e2 : ((j : Int) + 1) * m = (t + m : Nat) := by rw [ht]; push_cast; rw [Int.add_mul]; omega
      have h1 : t + m ≤ p := by rw [ht, hp, ← Nat.succ_mul]; exact Nat.mul_le_mul_right _ hlt
      have e3 : (i : Int) + (t : Int) = (i + t : Nat) := by push_cast; rfl
      have e4 : (i : Int) + ((t + m : Nat) : Int) = (i + t : Nat) + (m : Int) := by push_cast; omega
      have n2 := seg_len (w := w) (a := i + t) (m := m) (by omega)
      have hs2 : List.drop ((i : Int) + t).toNat (List.take ((i : Int) + ((t : Int) + m)).toNat w) = seg w (i + t) m := by
        unfold seg
        rw [show ((i : Int) + t).toNat = i + t by omega, show ((i : Int) + ((t : Int) + m)).toNat = i + t + m by omega]
      have g1 : seg (seg w i p) (j * m) m = seg w (i + t) m := by rw [← ht]; exact seg_seg h1
      have g0 : seg (seg w i p) 0 m = seg w i m := by rw [seg_seg (by omega)]; rfl
      simp (disch := omega) [e1, e2]
      simp only [hs2]
      refine l01Count_does (seg w (i + t) m) _ _ (by omega) (seg_all hw _ _) ?_
      intro v2 M2 o2
      simp (disch := omega)
      refine l07Same_does v v2 _ _ _ _ (o1.rd.sub o2.sub) o2.rd rfl (counts_le _) ?_
      have hsym : (counts (seg w i m) == counts (seg w (i + t) m)) = (counts (seg w (i + t) m) == counts (seg w i m)) := Bool.eq_iff_iff.2 ⟨fun e => by rw [beq_iff_eq] at *; exact e.symm, fun e => by rw [beq_iff_eq] at *; exact e.symm⟩
      cases hc : (counts (seg w (i + t) m) == counts (seg w i m))
      · rw [hc] at hsym
        rw [alikeTo_no hlt (by rw [g1, g0]; exact hc)] at h
        simp (disch := omega) [hsym]
        exact ret_sub (o1.sub.trans o2.sub) h
      · rw [hc] at hsym
        simp (disch := omega) [hsym]
        refine Rnd.mk'' M' (j + 1) o2.sub (by omega) (by (repeat (first | exact km | refine kp rfl ?_ | refine km' rfl ?_))) (by simp (disch := omega)) ⟨rfl, by omega, by omega, ?_⟩
        rw [alikeTo_succ, ha, g1, g0, hc]; rfl
    · have hj' : j = k := by omega
      subst hj'
      rw [ha] at h
      simp (disch := omega)
      exact ret_sub o1.sub h
  · have hle' : (w.length : Int) < i + p := by omega
    rw [decide_eq_false hle, Bool.false_and] at h
    simp (disch := omega) [e0, hle']
    exact ret_of h
/-- The abelian powers that begin at i, of the first q lengths. -/
def rowsAt (w : List UInt8) (k i q : Nat) : List (List Int) := ((List.range q).filter fun m => abel w i (m + 1) k).map fun (m : Nat) => [(i : Int), ((m + 1 : Nat) : Int)]
def rowsTo (w : List UInt8) (k n : Nat) : List (List Int) := (List.range n).flatMap fun i => rowsAt w k i ((w.length - i) / k)
theorem rowsAt_succ (w : List UInt8) (k i q : Nat) : rowsAt w k i (q + 1) = rowsAt w k i q ++ if abel w i (q + 1) k then [[(i : Int), ((q + 1 : Nat) : Int)]] else [] := by
  unfold rowsAt
  rw [List.range_succ, List.filter_append, List.map_append]
  congr 1
  cases h : abel w i (q + 1) k <;> simp [h]
theorem rowsTo_succ (w : List UInt8) (k n : Nat) : rowsTo w k (n + 1) = rowsTo w k n ++ rowsAt w k n ((w.length - n) / k) := by simp [rowsTo, List.range_succ]
theorem rowsAt_len (w : List UInt8) (k i q : Nat) : (rowsAt w k i q).length ≤ q ∧ sizes (rowsAt w k i q) ≤ 2 * q := by
  induction q with
  | zero => exact ⟨Nat.le_refl _, Nat.le_refl _⟩
  | succ q ih =>
    rw [rowsAt_succ]
    cases h : abel w i (q + 1) k
    · simp only [Bool.false_eq_true, if_false, List.append_nil]; omega
    · simp only [if_true, sizes_snoc, List.length_append, List.length_singleton, List.length_cons, List.length_nil]; omega
theorem rowsTo_len (w : List UInt8) (k n : Nat) : (rowsTo w k n).length ≤ n * w.length ∧ sizes (rowsTo w k n) ≤ 2 * (n * w.length) := by
  induction n with
  | zero => simp [rowsTo, sizes]
  | succ n ih =>
    have h1 := rowsAt_len w k n ((w.length - n) / k)
    have h2 : (w.length - n) / k ≤ w.length := Nat.le_trans (Nat.div_le_self _ _) (Nat.sub_le _ _)
    have h3 : ∀ A B : List (List Int), sizes (A ++ B) = sizes A + sizes B := fun A B => by simp [sizes]
    rw [rowsTo_succ, List.length_append, h3, Nat.succ_mul]
    omega
theorem fits_iff {w : List UInt8} {i q k : Nat} (hk : 1 ≤ k) (hi : i ≤ w.length) : i + k * (q + 1) ≤ w.length ↔ q < (w.length - i) / k := by
  rw [Nat.lt_iff_add_one_le, Nat.le_div_iff_mul_le hk, Nat.mul_comm]
  omega
theorem row_push {M N M' : Mem} {v : Value} {rs : List Value} {rows : List (List Int)} (h : RowsOf M rs rows N) (ho : Own N v rs M') {b : Nat} (hb : M' b = none) (r : List Int) (n c : Nat) (hn : r.length = n) (hc : n ≤ c) :
    RowsOf M (rs ++ [.slice (some ⟨b, 0, none⟩) n c]) (rows ++ [r]) (N.put b (.cells true (ints r) c)) ∧ Own (N.put b (.cells true (ints r) c)) v rs (M'.put b (.cells true (ints r) c)) := by
  subst hn
  exact ⟨h.snoc (none_of ho.sub hb) hc, ho.push hb _⟩
theorem l07Powers_does (w : List UInt8) (k : Nat) (M : Mem) (R : Value → Mem → Prop) (hl : w.length ≤ 60) (hk : 1 ≤ k) (hk' : k ≤ 60) (hw : w.all isL = true)
    (h : ∀ v rs N M', RowsOf M rs (rowsTo w k w.length) N → Own N v rs M' → R v M') : Does Tryz.prog 78 [str w, .int .i64 k] M R := by
  refine does_fn tab_ok Tryz.func78 rfl (by kernel_rfl) (by kernel_rfl) Tryz.ntmps78 Tryz.results78 rfl ?_
  simp (disch := omega)
  first
    | (intro b0 hb0
       simp (disch := omega)
       refine loop_to tab_ok [5, 7, 8, 12, 13, 14, 15, 16, 17, 18, 19, 20, 21, 22, 23, 24, 25, 26, 27, 28, 29, 30, 31, 32, 33, 34, 35, 36] (fun x : Nat × List Value × Value => [(7, .int .i64 x.1), (5, x.2.2)]) (fun x M' => x.1 ≤ w.length ∧ ∃ N, RowsOf M x.2.1 (rowsTo w k x.1) N ∧ Own N x.2.2 x.2.1 M') (fun x => w.length - x.1) (0, [], .slice (some ⟨b0, 0, none⟩) 0 0) (by kernel_rfl) (by simp (disch := omega)) ⟨by simp, M, .nil, Own.new hb0 rfl (Nat.le_refl 0)⟩ ?_)
    | refine loop_to tab_ok [5, 7, 8, 12, 13, 14, 15, 16, 17, 18, 19, 20, 21, 22, 23, 24, 25, 26, 27, 28, 29, 30, 31, 32, 33, 34, 35, 36] (fun x : Nat × List Value × Value => [(7, .int .i64 x.1), (5, x.2.2)]) (fun x M' => x.1 ≤ w.length ∧ ∃ N, RowsOf M x.2.1 (rowsTo w k x.1) N ∧ Own N x.2.2 x.2.1 M') (fun x => w.length - x.1) (0, [], .slice none 0 0) (by kernel_rfl) (by simp (disch := omega)) ⟨by simp, M, .nil, Own.nil _⟩ ?_
  rintro ⟨i, rs, v⟩ M' g ⟨hi, N, hr, ho⟩
  simp only at hi hr ho
  by_cases hlt : i < w.length
  · simp (disch := omega)
    refine loop_to tab_ok [5, 8, 17, 18, 19, 20, 21, 22, 23, 24, 25, 26, 27, 28, 29, 30, 31, 32, 33, 34, 35, 36] (fun x : Nat × List Value × Value => [(8, .int .i64 (x.1 + 1)), (5, x.2.2)]) (fun x M1 => x.1 ≤ (w.length - i) / k ∧ ∃ N, RowsOf M x.2.1 (rowsTo w k i ++ rowsAt w k i x.1) N ∧ Own N x.2.2 x.2.1 M1) (fun x => (w.length - i) / k - x.1) (0, rs, v) (by kernel_rfl) (by simp (disch := omega)) ⟨by simp, N, by simpa [rowsAt] using hr, ho⟩ ?_
    rintro ⟨q, rs1, v1⟩ M1 g1 ⟨hq, N1, hr1, ho1⟩
    simp only at hq hr1 ho1
    have hdiv : (w.length - i) / k ≤ w.length := Nat.le_trans (Nat.div_le_self _ _) (Nat.sub_le _ _)
    obtain ⟨p, hp⟩ : ∃ p, p = k * (q + 1) := ⟨_, rfl⟩
    have hp' : p ≤ 60 * 61 := by rw [hp]; exact Nat.mul_le_mul hk' (by omega)
    have e1 : ((q : Int) + 1) * k = p := by rw [hp, Nat.mul_comm]; push_cast; rfl
    have e2 : (k : Int) * (q + 1) = p := by rw [hp]; push_cast; rfl
    have hiff := fits_iff (w := w) (i := i) (q := q) hk hi
    rw [← hp] at hiff
    by_cases hqlt : q < (w.length - i) / k
    · have hle := hiff.2 hqlt
      have hle' : (i : Int) + p ≤ w.length := by omega
      have hseg := seg_int (w := w) (a := i) (m := p)
      have hsl := seg_len (w := w) (a := i) (m := p) hle
      have hq1 : ((q : Int) + 1) = ((q + 1 : Nat) : Int) := by push_cast; rfl
      simp (disch := omega) [e1, e2, hle']
      try simp only [hseg]
      refine l07Power_does w i (q + 1) k _ hq1 _ _ hl (by omega) (by omega) (by omega) hk hk' hw ?_
      rw [← hp, decide_eq_true hle, Bool.true_and]
      cases hab : abel w i (q + 1) k
      · simp (disch := omega)
        refine Rnd.mk' (q + 1, rs1, v1) (by simp only; omega) (by (repeat (first | exact km | refine kp rfl ?_ | refine km' rfl ?_))) (by simp (disch := omega)) ⟨by simp only; omega, N1, ?_, ho1⟩
        simp only
        rw [rowsAt_succ, hab]
        simpa using hr1
      · simp (disch := omega)
        intro b1 hb1
        simp (disch := omega)
        intro b2 hb2
        simp (disch := omega)
        obtain ⟨hr2, ho2⟩ := row_push hr1 ho1 hb1 [(i : Int), ((q + 1 : Nat) : Int)] 2 2 rfl (Nat.le_refl 2)
        have hlr := hr1.len
        have hcount := (rowsAt_len w k i q).1
        have hcount2 := (rowsTo_len w k i).1
        have hcount3 : i * w.length ≤ 60 * 60 := Nat.mul_le_mul (by omega) hl
        rw [List.length_append] at hlr
        refine app_own ho2 ((Sub.refl _).put hb2 _) (by simp (disch := omega); rfl) rfl rfl (by omega) (by simp (disch := omega)) (by simp (disch := omega); omega) ?_
        intro v' M'' N'' ho' hs'
        simp (disch := omega)
        refine Rnd.mk'' M'' (q + 1, _, v') hs' (by simp only; omega) (by (repeat (first | exact km | refine kp rfl ?_ | refine km' rfl ?_))) (by simp (disch := omega)) ⟨by simp only; omega, _, ?_, ho'⟩
        simp only
        rw [rowsAt_succ, hab, if_pos rfl, ← List.append_assoc]
        exact hr2
    · have hle' : ¬ (i : Int) + p ≤ w.length := by intro hc; exact hqlt (hiff.1 (by omega))
      have hq' : q = (w.length - i) / k := by omega
      simp (disch := omega) [e1, e2, hle']
      refine Rnd.mk' (i + 1, rs1, v1) (by simp only; omega) (by (repeat (first | exact km | refine kp rfl ?_ | refine km' rfl ?_))) (by simp (disch := omega)) ⟨by simp only; omega, N1, ?_, ho1⟩
      simp only
      rw [rowsTo_succ, ← hq']
      exact hr1
  · have hi' : i = w.length := by omega
    subst hi'
    simp (disch := omega)
    exact ret_of (h _ _ _ _ hr ho)
theorem abelianPowers_does (w : List UInt8) (k : Nat) (M : Mem) (R : Value → Mem → Prop) (hl : w.length ≤ 60) (hk : 1 ≤ k) (hk' : k ≤ 60) (hw : w.all isL = true)
    (h : ∀ v rs N M', RowsOf M rs (rowsTo w k w.length) N → Own N v rs M' → R v M') : Does Tryz.prog 76 [str w, .int .i64 k] M R := by
  refine does_fn tab_ok Tryz.func76 rfl (by kernel_rfl) (by kernel_rfl) Tryz.ntmps76 Tryz.results76 rfl ?_
  simp (disch := omega)
  first
    | (intro b0 hb0
       simp (disch := omega)
       refine loop_to tab_ok [5, 6, 7, 10, 11, 12, 13, 14, 15, 16, 17, 18, 19, 20, 21, 22, 23, 24, 25, 26, 27, 28, 29, 30, 31, 32, 33, 34, 35, 36, 37, 38, 39] (fun x : Nat × List Value × Value => [(10, .int .i64 x.1), (5, x.2.2)]) (fun x M' => x.1 ≤ w.length ∧ ∃ N, RowsOf M x.2.1 (rowsTo w k x.1) N ∧ Own N x.2.2 x.2.1 M') (fun x => w.length - x.1) (0, [], .slice (some ⟨b0, 0, none⟩) 0 0) (by kernel_rfl) (by simp (disch := omega)) ⟨by simp, M, .nil, Own.new hb0 rfl (Nat.le_refl 0)⟩ ?_)
    | refine loop_to tab_ok [5, 6, 7, 10, 11, 12, 13, 14, 15, 16, 17, 18, 19, 20, 21, 22, 23, 24, 25, 26, 27, 28, 29, 30, 31, 32, 33, 34, 35, 36, 37, 38, 39] (fun x : Nat × List Value × Value => [(10, .int .i64 x.1), (5, x.2.2)]) (fun x M' => x.1 ≤ w.length ∧ ∃ N, RowsOf M x.2.1 (rowsTo w k x.1) N ∧ Own N x.2.2 x.2.1 M') (fun x => w.length - x.1) (0, [], .slice none 0 0) (by kernel_rfl) (by simp (disch := omega)) ⟨by simp, M, .nil, Own.nil _⟩ ?_
  rintro ⟨i, rs, v⟩ M' g ⟨hi, N, hr, ho⟩
  simp only at hi hr ho
  by_cases hlt : i < w.length
  · simp (disch := omega)
    refine loop_to tab_ok [5, 7, 13, 14, 15, 16, 17, 18, 19, 20, 21, 22, 23, 24, 25, 26, 27, 28, 29, 30, 31, 32, 33, 34, 35, 36, 37, 38] (fun x : Nat × List Value × Value => [(7, .int .i64 (x.1 + 1)), (5, x.2.2)]) (fun x M1 => x.1 ≤ (w.length - i) / k ∧ ∃ N, RowsOf M x.2.1 (rowsTo w k i ++ rowsAt w k i x.1) N ∧ Own N x.2.2 x.2.1 M1) (fun x => (w.length - i) / k - x.1) (0, rs, v) (by kernel_rfl) (by simp (disch := omega)) ⟨by simp, N, by simpa [rowsAt] using hr, ho⟩ ?_
    rintro ⟨q, rs1, v1⟩ M1 g1 ⟨hq, N1, hr1, ho1⟩
    simp only at hq hr1 ho1
    have hdiv : (w.length - i) / k ≤ w.length := Nat.le_trans (Nat.div_le_self _ _) (Nat.sub_le _ _)
    obtain ⟨p, hp⟩ : ∃ p, p = k * (q + 1) := ⟨_, rfl⟩
    have hp' : p ≤ 60 * 61 := by rw [hp]; exact Nat.mul_le_mul hk' (by omega)
    have e1 : ((q : Int) + 1) * k = p := by rw [hp, Nat.mul_comm]; push_cast; rfl
    have e2 : (k : Int) * (q + 1) = p := by rw [hp]; push_cast; rfl
    have hiff := fits_iff (w := w) (i := i) (q := q) hk hi
    rw [← hp] at hiff
    by_cases hqlt : q < (w.length - i) / k
    · have hle := hiff.2 hqlt
      have hle' : (i : Int) + p ≤ w.length := by omega
      have hseg := seg_int (w := w) (a := i) (m := p)
      have hsl := seg_len (w := w) (a := i) (m := p) hle
      have hq1 : ((q : Int) + 1) = ((q + 1 : Nat) : Int) := by push_cast; rfl
      simp (disch := omega) [e1, e2, hle']
      try simp only [hseg]
      refine isAbelian_does (seg w i p) (q + 1) k _ hq1 _ _ (by rw [hsl, hp]) (by omega) (by omega) hk (seg_all hw _ _) ?_
      rw [show alikeTo (seg w i p) (q + 1) k = abel w i (q + 1) k by unfold abel; rw [hp]]
      cases hab : abel w i (q + 1) k
      · simp (disch := omega)
        refine Rnd.mk' (q + 1, rs1, v1) (by simp only; omega) (by (repeat (first | exact km | refine kp rfl ?_ | refine km' rfl ?_))) (by simp (disch := omega)) ⟨by simp only; omega, N1, ?_, ho1⟩
        simp only
        rw [rowsAt_succ, hab]
        simpa using hr1
      · simp (disch := omega)
        intro b1 hb1
        simp (disch := omega)
        intro b2 hb2
        simp (disch := omega)
        obtain ⟨hr2, ho2⟩ := row_push hr1 ho1 hb1 [(i : Int), ((q + 1 : Nat) : Int)] 2 2 rfl (Nat.le_refl 2)
        have hlr := hr1.len
        have hcount := (rowsAt_len w k i q).1
        have hcount2 := (rowsTo_len w k i).1
        have hcount3 : i * w.length ≤ 60 * 60 := Nat.mul_le_mul (by omega) hl
        rw [List.length_append] at hlr
        refine app_own ho2 ((Sub.refl _).put hb2 _) (by simp (disch := omega); rfl) rfl rfl (by omega) (by simp (disch := omega)) (by simp (disch := omega); omega) ?_
        intro v' M'' N'' ho' hs'
        simp (disch := omega)
        refine Rnd.mk'' M'' (q + 1, _, v') hs' (by simp only; omega) (by (repeat (first | exact km | refine kp rfl ?_ | refine km' rfl ?_))) (by simp (disch := omega)) ⟨by simp only; omega, _, ?_, ho'⟩
        simp only
        rw [rowsAt_succ, hab, if_pos rfl, ← List.append_assoc]
        exact hr2
    · have hle' : ¬ (i : Int) + p ≤ w.length := by intro hc; exact hqlt (hiff.1 (by omega))
      have hq' : q = (w.length - i) / k := by omega
      simp (disch := omega) [e1, e2, hle']
      refine Rnd.mk' (i + 1, rs1, v1) (by simp only; omega) (by (repeat (first | exact km | refine kp rfl ?_ | refine km' rfl ?_))) (by simp (disch := omega)) ⟨by simp only; omega, N1, ?_, ho1⟩
      simp only
      rw [rowsTo_succ, ← hq']
      exact hr1
  · have hi' : i = w.length := by omega
    subst hi'
    simp (disch := omega)
    exact ret_of (h _ _ _ _ hr ho)
end Go.Proofs.YthpcojnpiggaiaaGreat
/-! Contracts: abelian powers of words. -/
namespace Go.Proofs.YthpcojnpiggaiaaGreat
open Go
set_option linter.unusedSimpArgs false
set_option linter.unusedVariables false

theorem empty_of {rs : List Value} {rows : List (List Int)} (h : rs.length = rows.length) : ((rs.length : Int) == 0) = rows.isEmpty := by
  rw [h]
  cases rows with
  | nil => rfl
  | cons a l => rw [beq_eq_false_iff_ne.2 (by simp only [List.length_cons]; omega)]; rfl
def powC (w : List UInt8) (k : Int) : Int := if isWord w then (if 2 ≤ k ∧ k ≤ 60 then 0 else 2) else 1
def powR (w : List UInt8) (k : Int) : List (List Int) := if isWord w then (if 2 ≤ k ∧ k ≤ 60 then rowsTo w k.toNat w.length else []) else []
theorem powR_len (w : List UInt8) (k : Int) : (powR w k).length ≤ 3600 ∧ sizes (powR w k) ≤ 7200 := by
  unfold powR
  split
  · rename_i hw
    have h60 := isWord_len hw
    split
    · have h := rowsTo_len w k.toNat w.length
      have h2 : w.length * w.length ≤ 60 * 60 := Nat.mul_le_mul h60 h60
      omega
    · simp [sizes]
  · simp [sizes]
theorem powR_row {w : List UInt8} {k : Int} : ∀ r ∈ powR w k, r.length = 2 := by
  unfold powR
  split
  · split
    · intro r hr
      obtain ⟨i, _, hr⟩ := List.mem_flatMap.1 hr
      obtain ⟨m, _, rfl⟩ := List.mem_map.1 hr
      rfl
    · simp
  · simp
theorem l07Code_does (w : List UInt8) (k : Int) (M : Mem) (R : Value → Mem → Prop) (hl : w.length ≤ 1099511627776) (h : R (.int .i64 (powC w k)) M) : Does Tryz.prog 77 [str w, .int .i64 k] M R := by
  refine does_fn tab_ok Tryz.func77 rfl (by kernel_rfl) (by kernel_rfl) Tryz.ntmps77 Tryz.results77 rfl ?_
  simp (disch := omega)
  refine l01Is_does w _ _ hl ?_
  unfold powC at h
  cases hw : isWord w
  · rw [hw] at h
    simp (disch := omega)
    exact ret_of h
  · rw [hw] at h
    simp (disch := omega)
    refine l01In_does k 2 60 _ _ ?_
    by_cases hk : 2 ≤ k ∧ k ≤ 60
    · rw [if_pos rfl, if_pos hk] at h
      rw [decide_eq_true hk]
      simp (disch := omega)
      exact ret_of h
    · rw [if_pos rfl, if_neg hk] at h
      rw [decide_eq_false hk]
      simp (disch := omega)
      exact ret_of h
theorem spec_AbelianPowers (w : List UInt8) (k : Int) (M : Mem) (R : Value → Mem → Prop) (hl : w.length ≤ 1099511627776) (h : LstSS (powC w k) (powR w k) M R) : Does Tryz.prog 17 [str w, .int .i64 k] M R := by
  refine does_fn tab_ok Tryz.func17 rfl (by kernel_rfl) (by kernel_rfl) Tryz.ntmps17 Tryz.results17 rfl ?_
  simp (disch := omega)
  refine l07Code_does w k _ _ hl ?_
  unfold powC powR at h
  unfold powC
  cases hw : isWord w
  · rw [hw] at h
    simp (disch := omega)
    exact ret_of (h _ _ _ _ .nil (Own.nil M))
  · rw [hw] at h
    by_cases hk : 2 ≤ k ∧ k ≤ 60
    · rw [if_pos rfl, if_pos rfl, if_pos hk, if_pos hk] at h
      rw [if_pos rfl, if_pos hk]
      obtain ⟨k, rfl⟩ : ∃ j : Nat, k = j := ⟨k.toNat, by omega⟩
      simp (disch := omega)
      refine l07Powers_does w k _ _ (isWord_len hw) (by omega) (by omega) (isWord_all hw) ?_
      intro v rs N M' hr ho
      simp (disch := omega)
      exact ret_of (h v rs N M' hr ho)
    · rw [if_pos rfl, if_pos rfl, if_neg hk, if_neg hk] at h
      rw [if_pos rfl, if_neg hk]
      simp (disch := omega)
      exact ret_of (h _ _ _ _ .nil (Own.nil M))
theorem spec_AbelianSquares (w : List UInt8) (M : Mem) (R : Value → Mem → Prop) (hl : w.length ≤ 1099511627776) (h : LstSS (powC w 2) (powR w 2) M R) : Does Tryz.prog 24 [str w] M R := by
  refine does_fn tab_ok Tryz.func24 rfl (by kernel_rfl) (by kernel_rfl) Tryz.ntmps24 Tryz.results24 rfl ?_
  simp (disch := omega)
  refine l01Is_does w _ _ hl ?_
  unfold powC powR at h
  cases hw : isWord w
  · rw [hw] at h
    simp (disch := omega)
    exact ret_of (h _ _ _ _ .nil (Own.nil M))
  · rw [hw] at h
    simp (disch := omega)
    refine l07Powers_does w 2 _ _ (isWord_len hw) (by omega) (by omega) (isWord_all hw) ?_
    intro v rs N M' hr ho
    simp (disch := omega)
    exact ret_of (h v rs N M' hr ho)
theorem spec_IsAbelianFree (w : List UInt8) (k : Int) (M : Mem) (R : Value → Mem → Prop) (hl : w.length ≤ 1099511627776) (h : R (tup2 (.bool (decide (powC w k = 0) && (powR w k).isEmpty)) (powC w k)) M) : Does Tryz.prog 19 [str w, .int .i64 k] M R := by
  refine does_fn tab_ok Tryz.func19 rfl (by kernel_rfl) (by kernel_rfl) Tryz.ntmps19 Tryz.results19 rfl ?_
  simp (disch := omega)
  refine l07Code_does w k _ _ hl ?_
  unfold tup2 powC powR at h
  unfold powC
  cases hw : isWord w
  · rw [hw] at h
    simp (disch := omega)
    exact ret_of h
  · rw [hw] at h
    by_cases hk : 2 ≤ k ∧ k ≤ 60
    · rw [if_pos rfl, if_pos rfl, if_pos hk, if_pos hk] at h
      rw [if_pos rfl, if_pos hk]
      obtain ⟨k, rfl⟩ : ∃ j : Nat, k = j := ⟨k.toNat, by omega⟩
      simp (disch := omega)
      refine l07Powers_does w k _ _ (isWord_len hw) (by omega) (by omega) (isWord_all hw) ?_
      intro v rs N M' hr ho
      have hs := hr.sub.trans ho.sub
      have hlen := hr.len
      obtain ⟨a, c, rfl, _⟩ := ho.rd.opened
      simp (disch := omega)
      refine ret_sub hs ?_
      simp only [Int.toNat_natCast, decide_true, Bool.true_and] at h
      rw [empty_of hlen]
      exact h
    · rw [if_pos rfl, if_pos rfl, if_neg hk, if_neg hk] at h
      rw [if_pos rfl, if_neg hk]
      simp (disch := omega)
      exact ret_of h
theorem impl_AbelianPowers (w : List UInt8) (k : Int) (M : Mem) (R : Value → Mem → Prop) (hl : w.length ≤ 1099511627776) (h : LstSS (powC w k) (powR w k) M R) : Does Tryz.prog 16 [str w, .int .i64 k] M R := by
  refine does_fn tab_ok Tryz.func16 rfl (by kernel_rfl) (by kernel_rfl) Tryz.ntmps16 Tryz.results16 rfl ?_
  simp (disch := omega)
  intro b1 hb1
  simp (disch := omega)
  intro b2 hb2
  have h2 := hb2
  rw [put_none] at h2
  simp (disch := omega)
  have hs2 : Sub M ((M.put b1 (.cells true [.int .i64 k] 1)).put b2 (.cells true [str w] 1)) := ((Sub.refl _).put hb1 _).putN hb2 _
  have hst : Stab (fun M' : Mem => M'.get? b1 0 = some (.int .i64 k)) := by
    intro N b B hG hb
    have : b1 ≠ b := by rintro rfl; unfold Mem.get? at hG; rw [hb] at hG; cases hG
    unfold Mem.get? at *
    rw [put_ne _ _ this]
    exact hG
  refine wordCode_does _ _ [w] (decide (2 ≤ k ∧ k ≤ 60)) (fun M' : Mem => M'.get? b1 0 = some (.int .i64 k)) _ _ (Rd.new rfl (Nat.le_refl 1)) (fine1 hl) (by simp) (by simp (disch := omega) [Ne.symm h2.1, h2.1]) hst ?_ ?_
  · intro N R' hG hR'
    simp (disch := omega)
    refine does_fn tab_ok Tryz.func75 rfl (by kernel_rfl) (by kernel_rfl) Tryz.ntmps75 Tryz.results75 rfl ?_
    simp (disch := omega) [hG]
    refine within_does k 2 60 _ _ ?_
    simp (disch := omega)
    exact ret_of (by simpa using hR')
  · rw [codeOf1]
    unfold powC powR at h
    cases hw : isWord w
    · rw [hw] at h
      simp (disch := omega)
      exact ret_sub hs2 (h _ _ _ _ .nil (Own.nil M))
    · rw [hw] at h
      by_cases hk : 2 ≤ k ∧ k ≤ 60
      · rw [if_pos rfl, if_pos rfl, if_pos hk, if_pos hk] at h
        rw [decide_eq_true hk]
        obtain ⟨k, rfl⟩ : ∃ j : Nat, k = j := ⟨k.toNat, by omega⟩
        simp (disch := omega) [Ne.symm h2.1, h2.1]
        refine abelianPowers_does w k _ _ (isWord_len hw) (by omega) (by omega) (isWord_all hw) ?_
        intro v rs N M' hr ho
        simp (disch := omega)
        obtain ⟨N2, M2, q1, q2, q3⟩ := base_SS hr ho hs2
        exact ret_sub q3 (h v rs N2 M2 q1 q2)
      · rw [if_pos rfl, if_pos rfl, if_neg hk, if_neg hk] at h
        rw [decide_eq_false hk]
        simp (disch := omega)
        exact ret_sub hs2 (h _ _ _ _ .nil (Own.nil M))
theorem impl_AbelianSquares (w : List UInt8) (M : Mem) (R : Value → Mem → Prop) (hl : w.length ≤ 1099511627776) (h : LstSS (powC w 2) (powR w 2) M R) : Does Tryz.prog 23 [str w] M R := by
  refine does_fn tab_ok Tryz.func23 rfl (by kernel_rfl) (by kernel_rfl) Tryz.ntmps23 Tryz.results23 rfl ?_
  simp (disch := omega)
  refine impl_AbelianPowers w 2 _ _ hl ?_
  intro v rs N M' hr ho
  simp (disch := omega)
  exact ret_of (h v rs N M' hr ho)
theorem impl_IsAbelianFree (w : List UInt8) (k : Int) (M : Mem) (R : Value → Mem → Prop) (hl : w.length ≤ 1099511627776) (h : R (tup2 (.bool (decide (powC w k = 0) && (powR w k).isEmpty)) (powC w k)) M) : Does Tryz.prog 18 [str w, .int .i64 k] M R := by
  refine does_fn tab_ok Tryz.func18 rfl (by kernel_rfl) (by kernel_rfl) Tryz.ntmps18 Tryz.results18 rfl ?_
  simp (disch := omega)
  refine impl_AbelianPowers w k _ _ hl ?_
  intro v rs N M' hr ho
  have hs := hr.sub.trans ho.sub
  have hlen := hr.len
  have hcnt := (powR_len w k).1
  obtain ⟨a, c, rfl, _⟩ := ho.rd.opened
  unfold tup2 at h
  generalize powC w k = code at *
  generalize powR w k = rows at *
  by_cases hc : code = 0
  · have hc' : (code == 0) = true := by rw [hc]; rfl
    rw [decide_eq_true hc, Bool.true_and] at h
    simp (disch := omega) [hc']
    rw [empty_of hlen]
    exact ret_sub hs h
  · have hc' : (code == 0) = false := beq_eq_false_iff_ne.2 hc
    rw [decide_eq_false hc, Bool.false_and] at h
    simp (disch := omega) [hc']
    exact ret_sub hs h
end Go.Proofs.YthpcojnpiggaiaaGreat

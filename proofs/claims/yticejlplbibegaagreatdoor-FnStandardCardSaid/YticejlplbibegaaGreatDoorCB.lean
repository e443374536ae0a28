/- Merged: C7 C8 C9 C10 C11. -/
import Derived.Test.YticejlplbibegaaGreatDoorCA
/-! Contracts: desks and morphisms as values: new ones, equality, marks. -/
namespace Go.Proofs.YticejlplbibegaaGreatDoor
open Go
set_option linter.unusedSimpArgs false
set_option linter.unusedVariables false

theorem Own.push {M M' : Mem} {v : Value} {xs : List Value} (h : Own M v xs M') {b : Nat} (hb : M' b = none) (B : Blk) : Own (M.put b B) v xs (M'.put b B) := by
  rcases h with ⟨rfl, rfl, rfl⟩ | ⟨b', c, rfl, hM, hc, rfl⟩
  · exact Own.nil _
  · have hne : b ≠ b' := by rintro rfl; rw [put_same] at hb; cases hb
    refine .inr ⟨b', c, rfl, by rw [put_none]; exact ⟨Ne.symm hne, hM⟩, hc, ?_⟩
    funext i
    simp only [Mem.put]
    by_cases h1 : i = b
    · rw [if_pos h1, if_neg (by rw [h1]; exact hne), if_pos h1]
    · rw [if_neg h1, if_neg h1]
theorem set_is (M : Mem) (b : Nat) (B : Blk) : M.set b B = M.put b B := rfl
/-- Writing another block. -/
theorem Own.other {M M' : Mem} {v : Value} {xs : List Value} {b : Nat} {B0 : Blk} (h : Own M v xs M') (hb : M b = some B0) (B : Blk) : Own (M.put b B) v xs (M'.put b B) := by
  rcases h with ⟨rfl, rfl, rfl⟩ | ⟨b', c, rfl, hM, hc, rfl⟩
  · exact Own.nil _
  · have hne : b ≠ b' := by rintro rfl; rw [hM] at hb; cases hb
    refine .inr ⟨b', c, rfl, by rw [put_none]; exact ⟨Ne.symm hne, hM⟩, hc, ?_⟩
    funext i
    simp only [Mem.put]
    by_cases h1 : i = b
    · rw [if_pos h1, if_neg (by rw [h1]; exact hne), if_pos h1]
    · rw [if_neg h1, if_neg h1]
theorem put_put (M : Mem) (b : Nat) (A B : Blk) : (M.put b A).put b B = M.put b B := by
  funext i; simp only [Mem.put]; split <;> rfl
def deskV (w p : List UInt8) (v : Value) : Value := .agg #[str w, str p, v]
end Go.Proofs.YticejlplbibegaaGreatDoor
/-! Contracts: abelian powers. -/
namespace Go.Proofs.YticejlplbibegaaGreatDoor
open Go
set_option linter.unusedSimpArgs false
set_option linter.unusedVariables false

def seg (w : List UInt8) (a m : Nat) : List UInt8 := (w.take (a + m)).drop a
theorem seg_len {w : List UInt8} {a m : Nat} (h : a + m ≤ w.length) : (seg w a m).length = m := by unfold seg; rw [List.length_drop, List.length_take]; omega
theorem seg_all {w : List UInt8} (h : w.all isL = true) (a m : Nat) : (seg w a m).all isL = true := by
  rw [List.all_eq_true] at *
  intro u hu
  exact h u (List.mem_of_mem_take (List.mem_of_mem_drop hu))
theorem seg_seg {w : List UInt8} {i n a m : Nat} (h : a + m ≤ n) : seg (seg w i n) a m = seg w (i + a) m := by
  unfold seg
  rw [List.take_drop, List.take_take, List.drop_drop, Nat.min_eq_left (by omega), Nat.add_assoc]
theorem seg_zero (w : List UInt8) (m : Nat) : seg w 0 m = w.take m := by simp [seg]
theorem seg_int {w : List UInt8} {a m : Nat} : (w.take ((a : Int) + m).toNat).drop a = seg w a m := by unfold seg; rw [show ((a : Int) + m).toNat = a + m by omega]
/-- Do the first j parts of a length have the counts of the first one? -/
def alikeTo (l : List UInt8) (m j : Nat) : Bool := (List.range j).all fun i => counts (seg l (i * m) m) == counts (seg l 0 m)
theorem alikeTo_succ (l : List UInt8) (m j : Nat) : alikeTo l m (j + 1) = (alikeTo l m j && (counts (seg l (j * m) m) == counts (seg l 0 m))) := by simp [alikeTo, List.range_succ]
theorem alikeTo_one (l : List UInt8) (m : Nat) : alikeTo l m 1 = true := by simp [alikeTo]
theorem alikeTo_no {l : List UInt8} {m j k : Nat} (hj : j < k) (h : (counts (seg l (j * m) m) == counts (seg l 0 m)) = false) : alikeTo l m k = false := by
  unfold alikeTo
  rw [List.all_eq_false]
  exact ⟨j, List.mem_range.2 hj, by rw [h]; simp⟩
def abel (w : List UInt8) (i m k : Nat) : Bool := alikeTo (seg w i (k * m)) m k
end Go.Proofs.YticejlplbibegaaGreatDoor
/-! Contracts: lists of lists of numbers: equality, marks. -/
namespace Go.Proofs.YticejlplbibegaaGreatDoor
open Go
set_option linter.unusedSimpArgs false
set_option linter.unusedVariables false

/-- Lists, each in a block of its own. -/
inductive RowsOf (M : Mem) : List Value → List (List Int) → Mem → Prop
  | nil : RowsOf M [] [] M
  | more {rs : List Value} {rows : List (List Int)} {N : Mem} {b c : Nat} {r : List Int} (cc : Nat) (x : List Value) (h : RowsOf M rs rows N) (hb : N b = none) (hc : r.length ≤ cc) :
    RowsOf M (rs ++ [.slice (some ⟨b, 0, none⟩) r.length cc]) (rows ++ [r]) (N.put b (.cells true (ints r ++ x) c))
theorem RowsOf.snoc {M : Mem} {rs : List Value} {rows : List (List Int)} {N : Mem} {b c : Nat} {r : List Int} (h : RowsOf M rs rows N) (hb : N b = none) (hc : r.length ≤ c) :
    RowsOf M (rs ++ [.slice (some ⟨b, 0, none⟩) r.length c]) (rows ++ [r]) (N.put b (.cells true (ints r) c)) := by
  have := h.more (c := c) c [] hb hc
  rw [List.append_nil] at this
  exact this
theorem RowsOf.sub {M N : Mem} {rs : List Value} {rows : List (List Int)} (h : RowsOf M rs rows N) : Sub M N := by
  induction h with
  | nil => exact Sub.refl _
  | more cc x h hb hc ih => exact ih.putN hb _
theorem RowsOf.len {M N : Mem} {rs : List Value} {rows : List (List Int)} (h : RowsOf M rs rows N) : rs.length = rows.length := by
  induction h with
  | nil => rfl
  | more cc x h hb hc ih => rw [List.length_append, List.length_append, ih]; rfl
theorem RowsOf.base {M M' N : Mem} {rs : List Value} {rows : List (List Int)} (h : RowsOf M' rs rows N) (hs : Sub M M') : ∃ N2, RowsOf M rs rows N2 ∧ Sub N2 N := by
  induction h with
  | nil => exact ⟨M, .nil, hs⟩
  | more cc x h hb hc ih =>
    obtain ⟨N2, h1, h2⟩ := ih
    exact ⟨_, h1.more cc x (none_of h2 hb) hc, h2.both _ _⟩
theorem RowsOf.flat {M N : Mem} {rs : List Value} {rows : List (List Int)} (h : RowsOf M rs rows N) : ∀ v ∈ rs, flatV v = true := by
  induction h with
  | nil => intro v hv; cases hv
  | more cc x h hb hc ih =>
    intro v hv
    rcases List.mem_append.1 hv with hv | hv
    · exact ih v hv
    · rw [List.mem_singleton.1 hv]; rfl
/-- The i-th list's block. -/
theorem RowsOf.at {M N : Mem} {rs : List Value} {rows : List (List Int)} (h : RowsOf M rs rows N) : ∀ (i : Nat) (r : List Int), rows[i]? = some r → ∃ b c cc x, rs[i]? = some (.slice (some ⟨b, 0, none⟩) r.length cc) ∧ N b = some (.cells true (ints r ++ x) c) ∧ r.length ≤ cc ∧ M b = none := by
  induction h with
  | nil => intro i r h; simp at h
  | @more rs rows N b c r cc x h hb hc ih =>
    intro i r' hi
    rcases Nat.lt_trichotomy i rows.length with hlt | heq | hgt
    · rw [List.getElem?_append_left hlt] at hi
      obtain ⟨b', c', cc', x', h1, h2, h3, h4⟩ := ih i r' hi
      refine ⟨b', c', cc', x', by rw [List.getElem?_append_left (by rw [h.len]; exact hlt), h1], ?_, h3, h4⟩
      rw [put_ne _ _ (by rintro rfl; rw [hb] at h2; cases h2), h2]
    · subst heq
      rw [List.getElem?_append_right (Nat.le_refl _), Nat.sub_self] at hi
      injection hi with hi
      subst hi
      refine ⟨b, c, cc, x, ?_, put_same _ _ _, hc, none_of h.sub hb⟩
      rw [List.getElem?_append_right (by rw [h.len]; exact Nat.le_refl _), h.len, Nat.sub_self]; rfl
    · rw [List.getElem?_eq_none (by rw [List.length_append, List.length_singleton]; omega)] at hi
      cases hi
theorem put_swap (M : Mem) {a b : Nat} (h : a ≠ b) (A B : Blk) : (M.put a A).put b B = (M.put b B).put a A := by
  funext i
  simp only [Mem.put]
  by_cases h1 : i = b
  · rw [if_pos h1, if_neg (by rw [h1]; exact Ne.symm h), if_pos h1]
  · rw [if_neg h1, if_neg h1]
/-- Another list in the i-th block. -/
theorem RowsOf.upd {M N : Mem} {rs : List Value} {rows : List (List Int)} (h : RowsOf M rs rows N) : ∀ (i : Nat) (r r' : List Int) (b c cc : Nat) (x : List Value), rows[i]? = some r → rs[i]? = some (.slice (some ⟨b, 0, none⟩) r.length cc) → N b = some (.cells true (ints r ++ x) c) → r'.length = r.length →
    RowsOf M rs (rows.set i r') (N.put b (.cells true (ints r' ++ x) c)) := by
  induction h with
  | nil => intro i r r' b c cc x h; simp at h
  | @more rs rows N b0 c0 r0 cc0 x0 h hb hc ih =>
    intro i r r' b c cc x hi hr hN hl
    rcases Nat.lt_trichotomy i rows.length with hlt | heq | hgt
    · rw [List.getElem?_append_left hlt] at hi
      rw [List.getElem?_append_left (by rw [h.len]; exact hlt)] at hr
      obtain ⟨b1, c1, cc1, x1, k1, k2, _, _⟩ := h.at i r hi
      have e : b1 = b := by rw [k1] at hr; injection hr with hr; injection hr with hr; injection hr with hr; injection hr
      have hne : b0 ≠ b := by rintro rfl; rw [← e] at hb; rw [hb] at k2; cases k2
      rw [List.set_append_left _ _ hlt, put_swap _ hne]
      rw [put_ne _ _ (Ne.symm hne)] at hN
      exact (ih i r r' b c cc x hi hr hN hl).more cc0 x0 (by rw [put_none]; exact ⟨hne, hb⟩) hc
    · subst heq
      rw [List.getElem?_append_right (Nat.le_refl _), Nat.sub_self] at hi
      injection hi with hi
      subst hi
      rw [List.getElem?_append_right (by rw [h.len]; exact Nat.le_refl _), h.len, Nat.sub_self] at hr
      injection hr with hr
      injection hr with h1 h2 h3
      injection h1 with h1
      injection h1 with h1
      subst h1; subst h3
      rw [put_same] at hN
      injection hN with hN
      injection hN with q1 q2 q3
      have q4 := List.append_cancel_left q2
      subst q3; subst q4
      rw [List.set_append_right _ _ (Nat.le_refl _), Nat.sub_self, put_put]
      have := h.more (c := c0) cc0 x0 hb (r := r') (by rw [hl]; exact hc)
      rw [hl] at this
      exact this
    · rw [List.getElem?_eq_none (by rw [List.length_append, List.length_singleton]; omega)] at hi
      cases hi
/-- A list of lists, to be read. -/
def RdSS (M : Mem) (v : Value) (rows : List (List Int)) : Prop := ∃ rs : List Value, Rd M v rs ∧ rs.length = rows.length ∧ ∀ (i : Nat) (r : List Int), rows[i]? = some r → ∃ x : Value, rs[i]? = some x ∧ Rd M x (ints r)
theorem RdSS.sub {M N : Mem} {v : Value} {rows : List (List Int)} (h : RdSS M v rows) (hs : Sub M N) : RdSS N v rows := by
  obtain ⟨rs, h1, h2, h3⟩ := h
  refine ⟨rs, h1.sub hs, h2, fun i r hi => ?_⟩
  obtain ⟨x, h4, h5⟩ := h3 i r hi
  exact ⟨x, h4, h5.sub hs⟩
theorem rdSS_of {M N M' : Mem} {v : Value} {rs : List Value} {rows : List (List Int)} (h : RowsOf M rs rows N) (ho : Own N v rs M') : RdSS M' v rows := by
  refine ⟨rs, ho.rd, h.len, fun i r hi => ?_⟩
  obtain ⟨b, c, cc, x, h1, h2, h3, _⟩ := h.at i r hi
  refine ⟨_, h1, ?_⟩
  have : Rd N (.slice (some ⟨b, 0, none⟩) r.length cc) (ints r) := by
    refine .inr ⟨b, 0, cc, by rw [ints_length], ?_, by rw [ints_length]; exact h3⟩
    rw [sub_of h2, optIf, if_pos (by rw [List.length_append]; omega), List.drop_zero, List.take_left]
  exact this.sub ho.sub
def markL (k : Int) (n : Nat) : List Int := (List.range n).map fun (j : Nat) => k + j
theorem markI_ints (k : Int) (n : Nat) : markI k n = ints (markL k n) := by simp [markI, markL, ints]
@[simp] theorem markL_length (k : Int) (n : Nat) : (markL k n).length = n := by simp [markL]
/-- The lists marked one after the other. -/
def markR : Int → List (List Int) → List (List Int)
  | _, [] => []
  | k, r :: rows => markL k r.length :: markR (k + r.length) rows
def sizes (rows : List (List Int)) : Nat := (rows.map List.length).sum
theorem markR_length : ∀ (k : Int) (rows : List (List Int)), (markR k rows).length = rows.length
  | _, [] => rfl
  | k, r :: rows => by simp only [markR, List.length_cons, markR_length _ rows]
theorem markR_snoc : ∀ (k : Int) (rows : List (List Int)) (r : List Int), markR k (rows ++ [r]) = markR k rows ++ [markL (k + sizes rows) r.length]
  | k, [], r => by simp [markR, sizes]
  | k, a :: rows, r => by
    have e : k + a.length + sizes rows = k + sizes (a :: rows) := by simp only [sizes, List.map_cons, List.sum_cons]; push_cast; omega
    simp only [List.cons_append, markR, markR_snoc _ rows r, e]
theorem sizes_snoc (rows : List (List Int)) (r : List Int) : sizes (rows ++ [r]) = sizes rows + r.length := by simp [sizes]
theorem sizes_take (rows : List (List Int)) (i : Nat) : sizes (rows.take i) ≤ sizes rows := by
  have h1 : sizes (rows.take i ++ rows.drop i) = sizes (rows.take i) + sizes (rows.drop i) := by simp only [sizes, List.map_append, List.sum_append]
  rw [List.take_append_drop] at h1
  omega
theorem base_SS {M M' N M1 : Mem} {v : Value} {rs : List Value} {rows : List (List Int)} (h : RowsOf M' rs rows N) (ho : Own N v rs M1) (hs : Sub M M') : ∃ N2 M2, RowsOf M rs rows N2 ∧ Own N2 v rs M2 ∧ Sub M2 M1 := by
  obtain ⟨N2, h1, h2⟩ := h.base hs
  obtain ⟨M2, h3, h4⟩ := ho.base h2
  exact ⟨N2, M2, h1, h3, h4⟩
/-- A list of lists and its code. -/
def LstSS (c : Int) (rows : List (List Int)) (M : Mem) (R : Value → Mem → Prop) : Prop := ∀ v rs N M', RowsOf M rs rows N → Own N v rs M' → R (.tuple #[v, .int .i64 c]) M'
end Go.Proofs.YticejlplbibegaaGreatDoor
/-! Contracts: lists of abelian powers, of the reference and of the program. -/
namespace Go.Proofs.YticejlplbibegaaGreatDoor
open Go
set_option linter.unusedSimpArgs false
set_option linter.unusedVariables false

/-- The abelian powers that begin at i, of the first q lengths. -/
def rowsAt (w : List UInt8) (k i q : Nat) : List (List Int) := ((List.range q).filter fun m => abel w i (m + 1) k).map fun (m : Nat) => [(i : Int), ((m + 1 : Nat) : Int)]
def rowsTo (w : List UInt8) (k n : Nat) : List (List Int) := (List.range n).flatMap fun i => rowsAt w k i ((w.length - i) / k)
theorem rowsAt_succ (w : List UInt8) (k i q : Nat) : rowsAt w k i (q + 1) = rowsAt w k i q ++ if abel w i (q + 1) k then [[(i : Int), ((q + 1 : Nat) : Int)]] else [] := by
  unfold rowsAt
  rw [List.range_succ, List.filter_append, List.map_append]
  congr 1
  cases h : abel w i (q + 1) k <;> simp [h]
theorem rowsTo_succ (w : List UInt8) (k n : Nat) : rowsTo w k (n + 1) = rowsTo w k n ++ rowsAt w k n ((w.length - n) / k) := by simp [rowsTo, List.range_succ]
theorem rowsAt_len (w : List UInt8) (k i q : Nat) : (rowsAt w k i q).length ≤ q ∧ sizes (rowsAt w k i q) ≤ 2 * q := by
  induction q with
  | zero => exact ⟨Nat.le_refl _, Nat.le_refl _⟩
  | succ q ih =>
    rw [rowsAt_succ]
    cases h : abel w i (q + 1) k
    · simp only [Bool.false_eq_true, if_false, List.append_nil]; omega
    · simp only [if_true, sizes_snoc, List.length_append, List.length_singleton, List.length_cons, List.length_nil]; omega
theorem rowsTo_len (w : List UInt8) (k n : Nat) : (rowsTo w k n).length ≤ n * w.length ∧ sizes (rowsTo w k n) ≤ 2 * (n * w.length) := by
  induction n with
  | zero => simp [rowsTo, sizes]
  | succ n ih =>
    have h1 := rowsAt_len w k n ((w.length - n) / k)
    have h2 : (w.length - n) / k ≤ w.length := Nat.le_trans (Nat.div_le_self _ _) (Nat.sub_le _ _)
    have h3 : ∀ A B : List (List Int), sizes (A ++ B) = sizes A + sizes B := fun A B => by simp [sizes]
    rw [rowsTo_succ, List.length_append, h3, Nat.succ_mul]
    omega
theorem fits_iff {w : List UInt8} {i q k : Nat} (hk : 1 ≤ k) (hi : i ≤ w.length) : i + k * (q + 1) ≤ w.length ↔ q < (w.length - i) / k := by
  rw [Nat.lt_iff_add_one_le, Nat.le_div_iff_mul_le hk, Nat.mul_comm]
  omega
theorem row_push {M N M' : Mem} {v : Value} {rs : List Value} {rows : List (List Int)} (h : RowsOf M rs rows N) (ho : Own N v rs M') {b : Nat} (hb : M' b = none) (r : List Int) (n c : Nat) (hn : r.length = n) (hc : n ≤ c) :
    RowsOf M (rs ++ [.slice (some ⟨b, 0, none⟩) n c]) (rows ++ [r]) (N.put b (.cells true (ints r) c)) ∧ Own (N.put b (.cells true (ints r) c)) v rs (M'.put b (.cells true (ints r) c)) := by
  subst hn
  exact ⟨h.snoc (none_of ho.sub hb) hc, ho.push hb _⟩
end Go.Proofs.YticejlplbibegaaGreatDoor
/-! Contracts: abelian powers of words. -/
namespace Go.Proofs.YticejlplbibegaaGreatDoor
open Go
set_option linter.unusedSimpArgs false
set_option linter.unusedVariables false

theorem empty_of {rs : List Value} {rows : List (List Int)} (h : rs.length = rows.length) : ((rs.length : Int) == 0) = rows.isEmpty := by
  rw [h]
  cases rows with
  | nil => rfl
  | cons a l => rw [beq_eq_false_iff_ne.2 (by simp only [List.length_cons]; omega)]; rfl
def powC (w : List UInt8) (k : Int) : Int := if isWord w then (if 2 ≤ k ∧ k ≤ 60 then 0 else 2) else 1
def powR (w : List UInt8) (k : Int) : List (List Int) := if isWord w then (if 2 ≤ k ∧ k ≤ 60 then rowsTo w k.toNat w.length else []) else []
theorem powR_len (w : List UInt8) (k : Int) : (powR w k).length ≤ 3600 ∧ sizes (powR w k) ≤ 7200 := by
  unfold powR
  split
  · rename_i hw
    have h60 := isWord_len hw
    split
    · have h := rowsTo_len w k.toNat w.length
      have h2 : w.length * w.length ≤ 60 * 60 := Nat.mul_le_mul h60 h60
      omega
    · simp [sizes]
  · simp [sizes]
theorem powR_row {w : List UInt8} {k : Int} : ∀ r ∈ powR w k, r.length = 2 := by
  unfold powR
  split
  · split
    · intro r hr
      obtain ⟨i, _, hr⟩ := List.mem_flatMap.1 hr
      obtain ⟨m, _, rfl⟩ := List.mem_map.1 hr
      rfl
    · simp
  · simp
end Go.Proofs.YticejlplbibegaaGreatDoor

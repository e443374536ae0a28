/- Contracts: lists of lists of numbers: equality, marks. -/
import Derived.Test.YtncpooklejiphaaC7
namespace Go.Proofs.Ytncpooklejiphaa
open Go
set_option linter.unusedSimpArgs false
set_option linter.unusedVariables false

/-- Lists, each in a block of its own. -/
inductive RowsOf (M : Mem) : List Value → List (List Int) → Mem → Prop
  | nil : RowsOf M [] [] M
  | more {rs : List Value} {rows : List (List Int)} {N : Mem} {b c : Nat} {r : List Int} (cc : Nat) (x : List Value) (h : RowsOf M rs rows N) (hb : N b = none) (hc : r.length ≤ cc) :
    RowsOf M (rs ++ [.slice (some ⟨b, 0, none⟩) r.length cc]) (rows ++ [r]) (N.put b (.cells true (ints r ++ x) c))
theorem RowsOf.snoc {M : Mem} {rs : List Value} {rows : List (List Int)} {N : Mem} {b c : Nat} {r : List Int} (h : RowsOf M rs rows N) (hb : N b = none) (hc : r.length ≤ c) :
    RowsOf M (rs ++ [.slice (some ⟨b, 0, none⟩) r.length c]) (rows ++ [r]) (N.put b (.cells true (ints r) c)) := by
  have := h.more (c := c) c [] hb hc
  rw [List.append_nil] at this
  exact this
theorem RowsOf.sub {M N : Mem} {rs : List Value} {rows : List (List Int)} (h : RowsOf M rs rows N) : Sub M N := by
  induction h with
  | nil => exact Sub.refl _
  | more cc x h hb hc ih => exact ih.putN hb _
theorem RowsOf.len {M N : Mem} {rs : List Value} {rows : List (List Int)} (h : RowsOf M rs rows N) : rs.length = rows.length := by
  induction h with
  | nil => rfl
  | more cc x h hb hc ih => rw [List.length_append, List.length_append, ih]; rfl
theorem RowsOf.base {M M' N : Mem} {rs : List Value} {rows : List (List Int)} (h : RowsOf M' rs rows N) (hs : Sub M M') : ∃ N2, RowsOf M rs rows N2 ∧ Sub N2 N := by
  induction h with
  | nil => exact ⟨M, .nil, hs⟩
  | more cc x h hb hc ih =>
    obtain ⟨N2, h1, h2⟩ := ih
    exact ⟨_, h1.more cc x (none_of h2 hb) hc, h2.both _ _⟩
theorem RowsOf.flat {M N : Mem} {rs : List Value} {rows : List (List Int)} (h : RowsOf M rs rows N) : ∀ v ∈ rs, flatV v = true := by
  induction h with
  | nil => intro v hv; cases hv
  | more cc x h hb hc ih =>
    intro v hv
    rcases List.mem_append.1 hv with hv | hv
    · exact ih v hv
    · rw [List.mem_singleton.1 hv]; rfl
/-- The i-th list's block. -/
theorem RowsOf.at {M N : Mem} {rs : List Value} {rows : List (List Int)} (h : RowsOf M rs rows N) : ∀ (i : Nat) (r : List Int), rows[i]? = some r → ∃ b c cc x, rs[i]? = some (.slice (some ⟨b, 0, none⟩) r.length cc) ∧ N b = some (.cells true (ints r ++ x) c) ∧ r.length ≤ cc ∧ M b = none := by
  induction h with
  | nil => intro i r h; simp at h
  | @more rs rows N b c r cc x h hb hc ih =>
    intro i r' hi
    rcases Nat.lt_trichotomy i rows.length with hlt | heq | hgt
    · rw [List.getElem?_append_left hlt] at hi
      obtain ⟨b', c', cc', x', h1, h2, h3, h4⟩ := ih i r' hi
      refine ⟨b', c', cc', x', by rw [List.getElem?_append_left (by rw [h.len]; exact hlt), h1], ?_, h3, h4⟩
      rw [put_ne _ _ (by rintro rfl; rw [hb] at h2; cases h2), h2]
    · subst heq
      rw [List.getElem?_append_right (Nat.le_refl _), Nat.sub_self] at hi
      injection hi with hi
      subst hi
      refine ⟨b, c, cc, x, ?_, put_same _ _ _, hc, none_of h.sub hb⟩
      rw [List.getElem?_append_right (by rw [h.len]; exact Nat.le_refl _), h.len, Nat.sub_self]; rfl
    · rw [List.getElem?_eq_none (by rw [List.length_append, List.length_singleton]; omega)] at hi
      cases hi
theorem put_swap (M : Mem) {a b : Nat} (h : a ≠ b) (A B : Blk) : (M.put a A).put b B = (M.put b B).put a A := by
  funext i
  simp only [Mem.put]
  by_cases h1 : i = b
  · rw [if_pos h1, if_neg (by rw [h1]; exact Ne.symm h), if_pos h1]
  · rw [if_neg h1, if_neg h1]
/-- Another list in the i-th block. -/
theorem RowsOf.upd {M N : Mem} {rs : List Value} {rows : List (List Int)} (h : RowsOf M rs rows N) : ∀ (i : Nat) (r r' : List Int) (b c cc : Nat) (x : List Value), rows[i]? = some r → rs[i]? = some (.slice (some ⟨b, 0, none⟩) r.length cc) → N b = some (.cells true (ints r ++ x) c) → r'.length = r.length →
    RowsOf M rs (rows.set i r') (N.put b (.cells true (ints r' ++ x) c)) := by
  induction h with
  | nil => intro i r r' b c cc x h; simp at h
  | @more rs rows N b0 c0 r0 cc0 x0 h hb hc ih =>
    intro i r r' b c cc x hi hr hN hl
    rcases Nat.lt_trichotomy i rows.length with hlt | heq | hgt
    · rw [List.getElem?_append_left hlt] at hi
      rw [List.getElem?_append_left (by rw [h.len]; exact hlt)] at hr
      obtain ⟨b1, c1, cc1, x1, k1, k2, _, _⟩ := h.at i r hi
      have e : b1 = b := by rw [k1] at hr; injection hr with hr; injection hr with hr; injection hr with hr; injection hr
      have hne : b0 ≠ b := by rintro rfl; rw [← e] at hb; rw [hb] at k2; cases k2
      rw [List.set_append_left _ _ hlt, put_swap _ hne]
      rw [put_ne _ _ (Ne.symm hne)] at hN
      exact (ih i r r' b c cc x hi hr hN hl).more cc0 x0 (by rw [put_none]; exact ⟨hne, hb⟩) hc
    · subst heq
      rw [List.getElem?_append_right (Nat.le_refl _), Nat.sub_self] at hi
      injection hi with hi
      subst hi
      rw [List.getElem?_append_right (by rw [h.len]; exact Nat.le_refl _), h.len, Nat.sub_self] at hr
      injection hr with hr
      injection hr with h1 h2 h3
      injection h1 with h1
      injection h1 with h1
      subst h1; subst h3
      rw [put_same] at hN
      injection hN with hN
      injection hN with q1 q2 q3
      have q4 := List.append_cancel_left q2
      subst q3; subst q4
      rw [List.set_append_right _ _ (Nat.le_refl _), Nat.sub_self, put_put]
      have := h.more (c := c0) cc0 x0 hb (r := r') (by rw [hl]; exact hc)
      rw [hl] at this
      exact this
    · rw [List.getElem?_eq_none (by rw [List.length_append, List.length_singleton]; omega)] at hi
      cases hi
/-- A list of lists, to be read. -/
def RdSS (M : Mem) (v : Value) (rows : List (List Int)) : Prop := ∃ rs : List Value, Rd M v rs ∧ rs.length = rows.length ∧ ∀ (i : Nat) (r : List Int), rows[i]? = some r → ∃ x : Value, rs[i]? = some x ∧ Rd M x (ints r)
theorem RdSS.sub {M N : Mem} {v : Value} {rows : List (List Int)} (h : RdSS M v rows) (hs : Sub M N) : RdSS N v rows := by
  obtain ⟨rs, h1, h2, h3⟩ := h
  refine ⟨rs, h1.sub hs, h2, fun i r hi => ?_⟩
  obtain ⟨x, h4, h5⟩ := h3 i r hi
  exact ⟨x, h4, h5.sub hs⟩
theorem rdSS_of {M N M' : Mem} {v : Value} {rs : List Value} {rows : List (List Int)} (h : RowsOf M rs rows N) (ho : Own N v rs M') : RdSS M' v rows := by
  refine ⟨rs, ho.rd, h.len, fun i r hi => ?_⟩
  obtain ⟨b, c, cc, x, h1, h2, h3, _⟩ := h.at i r hi
  refine ⟨_, h1, ?_⟩
  have : Rd N (.slice (some ⟨b, 0, none⟩) r.length cc) (ints r) := by
    refine .inr ⟨b, 0, cc, by rw [ints_length], ?_, by rw [ints_length]; exact h3⟩
    rw [sub_of h2, optIf, if_pos (by rw [List.length_append]; omega), List.drop_zero, List.take_left]
  exact this.sub ho.sub
def markL (k : Int) (n : Nat) : List Int := (List.range n).map fun (j : Nat) => k + j
theorem markI_ints (k : Int) (n : Nat) : markI k n = ints (markL k n) := by simp [markI, markL, ints]
@[simp] theorem markL_length (k : Int) (n : Nat) : (markL k n).length = n := by simp [markL]
/-- The lists marked one after the other. -/
def markR : Int → List (List Int) → List (List Int)
  | _, [] => []
  | k, r :: rows => markL k r.length :: markR (k + r.length) rows
def sizes (rows : List (List Int)) : Nat := (rows.map List.length).sum
theorem markR_length : ∀ (k : Int) (rows : List (List Int)), (markR k rows).length = rows.length
  | _, [] => rfl
  | k, r :: rows => by simp only [markR, List.length_cons, markR_length _ rows]
theorem markR_snoc : ∀ (k : Int) (rows : List (List Int)) (r : List Int), markR k (rows ++ [r]) = markR k rows ++ [markL (k + sizes rows) r.length]
  | k, [], r => by simp [markR, sizes]
  | k, a :: rows, r => by
    have e : k + a.length + sizes rows = k + sizes (a :: rows) := by simp only [sizes, List.map_cons, List.sum_cons]; push_cast; omega
    simp only [List.cons_append, markR, markR_snoc _ rows r, e]
theorem sizes_snoc (rows : List (List Int)) (r : List Int) : sizes (rows ++ [r]) = sizes rows + r.length := by simp [sizes]
theorem sizes_take (rows : List (List Int)) (i : Nat) : sizes (rows.take i) ≤ sizes rows := by
  have h1 : sizes (rows.take i ++ rows.drop i) = sizes (rows.take i) + sizes (rows.drop i) := by simp only [sizes, List.map_append, List.sum_append]
  rw [List.take_append_drop] at h1
  omega
theorem eqInt64SS_does (v v' : Value) (xs ys : List (List Int)) (M : Mem) (R : Value → Mem → Prop) (hx : RdSS M v xs) (hy : RdSS M v' ys) (hl : xs.length ≤ 1099511627776) (hl' : ys.length ≤ 1099511627776)
    (hr : ∀ r ∈ xs, r.length ≤ 1099511627776) (hr' : ∀ r ∈ ys, r.length ≤ 1099511627776)
    (h : R (.bool (xs == ys)) M) : Does Try.prog 19 [v, v'] M R := by
  refine does_fn tab_ok Try.func19 rfl (by kernel_rfl) (by kernel_rfl) Try.ntmps19 Try.results19 rfl ?_
  obtain ⟨rs, hx, n1, hxr⟩ := hx
  obtain ⟨rs', hy, n2, hyr⟩ := hy
  obtain ⟨a, c, rfl, ha⟩ := hx.opened
  obtain ⟨a', c', rfl, ha'⟩ := hy.opened
  rw [n1] at ha ⊢
  rw [n2] at ha' ⊢
  by_cases hne : xs.length = ys.length
  · simp (disch := omega) [hne]
    refine loop_to tab_ok [4, 5, 11, 12, 13, 14, 15, 16, 17, 18, 19, 20, 21, 22, 23, 24, 25, 26] (fun i : Nat => [(5, .int .i64 i)]) (fun i M' => M' = M ∧ i ≤ xs.length ∧ xs.take i = ys.take i) (fun i => xs.length - i) 0 (by kernel_rfl) (by simp (disch := omega)) ⟨rfl, by omega, rfl⟩ ?_
    rintro i M' g ⟨rfl, hi, he⟩
    by_cases hlt : i < xs.length
    · rcases ha with h0 | ⟨b, o, rfl, hs⟩
      · omega
      rcases ha' with h0 | ⟨b', o', rfl, hs'⟩
      · omega
      have hlt' : i < ys.length := by omega
      have hx : xs[i]? = some xs[i] := List.getElem?_eq_getElem hlt
      have hy : ys[i]? = some ys[i] := List.getElem?_eq_getElem hlt'
      obtain ⟨x, x1, x2⟩ := hxr i _ hx
      obtain ⟨y, y1, y2⟩ := hyr i _ hy
      have hg := hs i (by omega)
      have hg' := hs' i (by omega)
      rw [x1] at hg
      rw [y1] at hg'
      simp (disch := omega) [hne]
      refine draw_to tab_ok (by kernel_rfl) (by kernel_rfl) (by rfl) ?_
      simp (disch := omega) [hg, hg']
      refine vQCall_at (a := []) (c := []) (eqInt64S_does x y _ _ _ _ x2 y2 (hr _ (List.getElem_mem hlt)) (hr' _ (List.getElem_mem hlt')) ⟨rfl, rfl⟩) ?_
      by_cases hq : xs[i] = ys[i]
      · have hq' : (xs[i] == ys[i]) = true := by rw [hq]; exact beq_self_eq_true _
        simp (disch := omega) [hq']
        refine Rnd.mk' (i + 1) (by omega) (by (repeat (first | exact km | refine kp rfl ?_ | refine km' rfl ?_))) (by simp (disch := omega)) ⟨rfl, by omega, ?_⟩
        rw [take_snoc xs hlt, take_snoc ys hlt', he, hq]
      · have hq' : (xs[i] == ys[i]) = false := beq_eq_false_iff_ne.2 hq
        simp (disch := omega) [hq']
        refine ret_of ?_
        have : (xs == ys) = false := by
          rw [beq_eq_false_iff_ne]; rintro rfl; exact hq rfl
        rw [this] at h; exact h
    · have hi' : i = xs.length := by omega
      subst hi'
      simp (disch := omega) [hne]
      refine ret_of ?_
      have : xs = ys := take_beq hne he
      subst this
      simpa using h
  · simp (disch := omega) [hne]
    refine ret_of ?_
    have : (xs == ys) = false := by
      rw [beq_eq_false_iff_ne]; rintro rfl; exact hne rfl
    rw [this] at h; exact h
theorem markP_does (b : Nat) (xs x : List Value) (k : Int) (c cc : Nat) (M1 : Mem) (R : Value → Mem → Prop) (hb : M1 b = some (.cells true (xs ++ x) c)) (hl : xs.length ≤ 1099511627776) (h0 : 0 ≤ k) (hk : k ≤ 1099511627776)
    (h : R (.int .i64 (k + xs.length)) (M1.put b (.cells true (markI k xs.length ++ x) c))) : Does Try.prog 26 [.slice (some ⟨b, 0, none⟩) xs.length cc, .int .i64 k] M1 R := by
  refine does_fn tab_ok Try.func26 rfl (by kernel_rfl) (by kernel_rfl) Try.ntmps26 Try.results26 rfl ?_
  simp (disch := omega)
  refine loop_to tab_ok [1, 5, 6, 7, 8, 9, 10, 11, 12, 13, 14, 15, 16, 17] (fun i : Nat => [(5, .int .i64 i), (1, .int .i64 (k + i))]) (fun i M' => i ≤ xs.length ∧ M' = M1.put b (.cells true (markI k i ++ (xs.drop i ++ x)) c)) (fun i => xs.length - i) 0 (by kernel_rfl) (by simp (disch := omega)) ⟨by omega, by
    have e : markI k 0 ++ (xs.drop 0 ++ x) = xs ++ x := by simp [markI]
    rw [e]
    funext j
    simp only [Mem.put]
    split
    · rename_i hj; rw [hj, hb]
    · rfl⟩ ?_
  rintro i M' g ⟨hi, rfl⟩
  by_cases hlt : i < xs.length
  · simp (disch := omega)
    refine Rnd.mk' (i + 1) (by omega) (by (repeat (first | exact km | refine kp rfl ?_ | refine km' rfl ?_))) (by simp (disch := omega); omega) ⟨by omega, ?_⟩
    rw [List.drop_eq_getElem_cons hlt]
    have := set_mid (markI k i) (xs.drop (i + 1) ++ x) xs[i] (.int .i64 (k + i))
    rw [markI_length] at this
    rw [List.cons_append, this, markI_succ]
    simp
  · have hi' : i = xs.length := by omega
    subst hi'
    simp (disch := omega)
    exact ret_of h
theorem markInt64SS_does (v : Value) (rs : List Value) (rows : List (List Int)) (k : Int) (M N M1 : Mem) (R : Value → Mem → Prop) (hr : RowsOf M rs rows N) (hv : Own N v rs M1) (hl : rows.length ≤ 1099511627776) (hz : sizes rows ≤ 1000000000) (h0 : 0 ≤ k) (hk : k ≤ 1000000000)
    (h : ∀ N2 M2, RowsOf M rs (markR k rows) N2 → Own N2 v rs M2 → R (.int .i64 (k + sizes rows)) M2) : Does Try.prog 21 [v, .int .i64 k] M1 R := by
  refine does_fn tab_ok Try.func21 rfl (by kernel_rfl) (by kernel_rfl) Try.ntmps21 Try.results21 rfl ?_
  obtain ⟨a, c, rfl, ha⟩ := hv.rd.opened
  rw [hr.len] at ha
  have hlen := hr.len
  rw [hlen] at hv ⊢
  simp (disch := omega)
  refine loop_to tab_ok [1, 5, 6, 7, 8, 9, 10, 11, 12, 13, 14, 15, 16, 17] (fun i : Nat => [(5, .int .i64 i), (1, .int .i64 (k + sizes (rows.take i)))]) (fun i M' => i ≤ rows.length ∧ ∃ N', RowsOf M rs (markR k (rows.take i) ++ rows.drop i) N' ∧ Own N' (.slice a rows.length c) rs M') (fun i => rows.length - i) 0 (by kernel_rfl) (by simp (disch := omega) [sizes]) ⟨by omega, N, by simpa [markR] using hr, hv⟩ ?_
  rintro i M' g ⟨hi, N', hr', ho⟩
  have hst := sizes_take rows i
  by_cases hlt : i < rows.length
  · have hx : (markR k (rows.take i) ++ rows.drop i)[i]? = some rows[i] := by
      have hm : (markR k (rows.take i)).length = i := by rw [markR_length, List.length_take]; omega
      rw [List.getElem?_append_right (by omega), hm, Nat.sub_self, List.getElem?_drop, Nat.add_zero, List.getElem?_eq_getElem hlt]
    obtain ⟨b, c', cc', x, h1, h2, h3, h4⟩ := hr'.at i _ hx
    have h2' := ho.sub _ _ h2
    have hg : ∃ b0 o0, a = some ⟨b0, o0, none⟩ ∧ M'.get? b0 (o0 + i) = rs[i]? := by
      obtain ⟨a2, c2, e, ha2⟩ := ho.rd.opened
      injection e with e1 e2 e3
      subst e1
      rcases ha2 with hz | ⟨b0, o0, rfl, hs⟩
      · omega
      · exact ⟨b0, o0, rfl, hs i (by omega)⟩
    obtain ⟨b0, o0, rfl, hg⟩ := hg
    rw [h1] at hg
    have hzi : sizes (rows.take i) + rows[i].length ≤ sizes rows := by
      have := sizes_take rows (i + 1)
      rw [take_snoc rows hlt, sizes_snoc] at this; exact this
    simp (disch := omega) [hlen, hg]
    have hil := ints_length rows[i]
    rw [← hil]
    refine markP_does b (ints rows[i]) x _ c' cc' _ _ h2' (by rw [ints_length]; omega) (by omega) (by omega) ?_
    rw [hil, markI_ints]
    simp (disch := omega)
    refine Rnd.mk' (i + 1) (by omega) (by (repeat (first | exact km | refine kp rfl ?_ | refine km' rfl ?_))) ?_ ⟨by omega, ?_⟩
    · rw [take_snoc rows hlt, sizes_snoc]
      simp (disch := omega)
      omega
    · refine ⟨N'.put b (.cells true (ints (markL (k + sizes (rows.take i)) rows[i].length) ++ x) c'), ?_, ho.other h2 _⟩
      have := hr'.upd i _ (markL (k + sizes (rows.take i)) rows[i].length) b c' cc' x hx h1 h2 (by simp)
      have hm : (markR k (rows.take i)).length = i := by rw [markR_length, List.length_take]; omega
      rw [List.set_append_right _ _ (by omega), hm, Nat.sub_self, List.drop_eq_getElem_cons hlt, List.set_cons_zero] at this
      rw [take_snoc rows hlt, markR_snoc, List.append_assoc]
      exact this
  · have hi' : i = rows.length := by omega
    subst hi'
    rw [List.take_length, List.drop_length, List.append_nil] at hr'
    rw [List.take_length]
    simp (disch := omega) [hlen]
    exact ret_of (h N' M' hr' (by rw [hlen]; exact ho))
theorem heldInt64SS_does (v : Value) (rows : List (List Int)) (k : Int) (M : Mem) (R : Value → Mem → Prop) (hv : RdSS M v (markR k rows)) (hl : rows.length ≤ 1099511627776) (hz : sizes rows ≤ 1000000000) (h0 : 0 ≤ k) (hk : k ≤ 1000000000)
    (h : R (.int .i64 (k + sizes rows)) M) : Does Try.prog 22 [v, .int .i64 k] M R := by
  refine does_fn tab_ok Try.func22 rfl (by kernel_rfl) (by kernel_rfl) Try.ntmps22 Try.results22 rfl ?_
  obtain ⟨rs, hv, n1, hvr⟩ := hv
  rw [markR_length] at n1
  obtain ⟨a, c, rfl, ha⟩ := hv.opened
  rw [n1] at ha ⊢
  simp (disch := omega)
  refine loop_to tab_ok [1, 4, 5, 6, 7, 8, 9, 10, 11, 12, 13, 14, 15, 16, 17, 18, 19] (fun i : Nat => [(5, .int .i64 i), (1, .int .i64 (k + sizes (rows.take i)))]) (fun i M' => M' = M ∧ i ≤ rows.length) (fun i => rows.length - i) 0 (by kernel_rfl) (by simp (disch := omega) [sizes]) ⟨rfl, by omega⟩ ?_
  rintro i M' g ⟨rfl, hi⟩
  have hst := sizes_take rows i
  by_cases hlt : i < rows.length
  · have hx : (markR k rows)[i]? = some (markL (k + sizes (rows.take i)) rows[i].length) := by
      have e : rows = rows.take i ++ [rows[i]] ++ rows.drop (i + 1) := by rw [List.append_assoc, List.singleton_append, ← List.drop_eq_getElem_cons hlt, List.take_append_drop]
      have gen : ∀ (k : Int) (A : List (List Int)) (r : List Int) (B : List (List Int)), (markR k (A ++ [r] ++ B))[A.length]? = some (markL (k + sizes A) r.length) := by
        intro k A r B
        induction A generalizing k with
        | nil => simp [markR, sizes]
        | cons a A ih =>
          simp only [List.cons_append, markR, List.length_cons, List.getElem?_cons_succ]
          rw [ih]
          simp only [sizes, List.map_cons, List.sum_cons]
          congr 2
          push_cast
          omega
      have := gen k (rows.take i) rows[i] (rows.drop (i + 1))
      rw [← e, List.length_take, Nat.min_eq_left (by omega)] at this
      exact this
    rcases ha with h0 | ⟨b, o, rfl, hs⟩
    · omega
    obtain ⟨x, x1, x2⟩ := hvr i _ hx
    have hg := hs i (by omega)
    rw [x1] at hg
    have hzi : sizes (rows.take i) + rows[i].length ≤ sizes rows := by
      have := sizes_take rows (i + 1)
      rw [take_snoc rows hlt, sizes_snoc] at this; exact this
    simp (disch := omega) [hg]
    refine heldInt64S_does x rows[i].length _ _ _ (by rw [markI_ints]; exact x2) (by omega) (by omega) (by omega) ?_
    simp (disch := omega)
    refine Rnd.mk' (i + 1) (by omega) (by (repeat (first | exact km | refine kp rfl ?_ | refine km' rfl ?_))) ?_ ⟨rfl, by omega⟩
    rw [take_snoc rows hlt, sizes_snoc]
    simp (disch := omega)
    omega
  · have hi' : i = rows.length := by omega
    subst hi'
    simp (disch := omega)
    exact ret_of h
theorem base_SS {M M' N M1 : Mem} {v : Value} {rs : List Value} {rows : List (List Int)} (h : RowsOf M' rs rows N) (ho : Own N v rs M1) (hs : Sub M M') : ∃ N2 M2, RowsOf M rs rows N2 ∧ Own N2 v rs M2 ∧ Sub M2 M1 := by
  obtain ⟨N2, h1, h2⟩ := h.base hs
  obtain ⟨M2, h3, h4⟩ := ho.base h2
  exact ⟨N2, M2, h1, h3, h4⟩
/-- A list of lists and its code. -/
def LstSS (c : Int) (rows : List (List Int)) (M : Mem) (R : Value → Mem → Prop) : Prop := ∀ v rs N M', RowsOf M rs rows N → Own N v rs M' → R (.tuple #[v, .int .i64 c]) M'
end Go.Proofs.Ytncpooklejiphaa

/- Contracts: lists of abelian powers, of the reference and of the program. -/
import Derived.Test.YtdelkgjgcdbipaaC8
import Derived.Test.YtdelkgjgcdbipaaC9
namespace Go.Proofs.Ytdelkgjgcdbipaa
open Go
set_option linter.unusedSimpArgs false
set_option linter.unusedVariables false

theorem l07Power_does (w : List UInt8) (i m k : Nat) (mi : Int) (hmi : mi = m) (M : Mem) (R : Value → Mem → Prop) (hl : w.length ≤ 60) (hi : i ≤ 60) (hm : 1 ≤ m) (hm' : m ≤ 60) (hk : 1 ≤ k) (hk' : k ≤ 60) (hw : w.all isL = true)
    (h : R (.bool (decide (i + k * m ≤ w.length) && abel w i m k)) M) : Does Try.prog 107 [str w, .int .i64 i, .int .i64 mi, .int .i64 k] M R := by
  subst hmi
  refine does_fn tab_ok Try.func107 rfl (by kernel_rfl) (by kernel_rfl) Try.ntmps107 Try.results107 rfl ?_
  obtain ⟨p, hp⟩ : ∃ p, p = k * m := ⟨_, rfl⟩
  have hp' : p ≤ 3600 := by rw [hp]; exact Nat.mul_le_mul hk' hm'
  have e0 : (m : Int) * k = p := by rw [hp, Nat.mul_comm]; push_cast; rfl
  have hmp : m ≤ p := by rw [hp]; exact Nat.le_mul_of_pos_left _ hk
  unfold abel at h
  rw [← hp] at h
  by_cases hle : i + p ≤ w.length
  · have hle' : ¬ (w.length : Int) < i + p := by omega
    rw [decide_eq_true hle, Bool.true_and] at h
    have hseg := seg_int (w := w) (a := i) (m := m)
    have n1 := seg_len (w := w) (a := i) (m := m) (by omega)
    simp (disch := omega) [e0, hle']
    simp only [hseg]
    refine l01Count_does (seg w i m) _ _ (by omega) (seg_all hw _ _) ?_
    intro v M1 o1
    simp (disch := omega)
    refine loop_to tab_ok [8, 10, 26, 27, 28, 29, 30, 31, 32, 33, 34, 35, 36, 37, 38, 39, 40, 41, 42, 43, 44, 45, 46, 47] (fun j : Nat => [(10, .int .i64 j)]) (fun j M' => M' = M1 ∧ 1 ≤ j ∧ j ≤ k ∧ alikeTo (seg w i p) m j = true) (fun j => k - j) 1 (by kernel_rfl) (by simp (disch := omega)) ⟨rfl, Nat.le_refl 1, hk, alikeTo_one _ _⟩ ?_
    rintro j M' g ⟨rfl, hj1, hj, ha⟩
    by_cases hlt : j < k
    · obtain ⟨t, ht⟩ : ∃ t, t = j * m := ⟨_, rfl⟩
      have e1 : (j : Int) * m = t := by rw [ht]; push_cast; rfl
      have e2 : ((j : Int) + 1) * m = (t + m : Nat) := by rw [ht]; push_cast; rw [Int.add_mul]; omega
      have h1 : t + m ≤ p := by rw [ht, hp, ← Nat.succ_mul]; exact Nat.mul_le_mul_right _ hlt
      have e3 : (i : Int) + (t : Int) = (i + t : Nat) := by push_cast; rfl
      have e4 : (i : Int) + ((t + m : Nat) : Int) = (i + t : Nat) + (m : Int) := by push_cast; omega
      have n2 := seg_len (w := w) (a := i + t) (m := m) (by omega)
      have hs2 : List.drop ((i : Int) + t).toNat (List.take ((i : Int) + ((t : Int) + m)).toNat w) = seg w (i + t) m := by
        unfold seg
        rw [show ((i : Int) + t).toNat = i + t by omega, show ((i : Int) + ((t : Int) + m)).toNat = i + t + m by omega]
      have g1 : seg (seg w i p) (j * m) m = seg w (i + t) m := by rw [← ht]; exact seg_seg h1
      have g0 : seg (seg w i p) 0 m = seg w i m := by rw [seg_seg (by omega)]; rfl
      simp (disch := omega) [e1, e2]
      simp only [hs2]
      refine l01Count_does (seg w (i + t) m) _ _ (by omega) (seg_all hw _ _) ?_
      intro v2 M2 o2
      simp (disch := omega)
      refine l07Same_does v v2 _ _ _ _ (o1.rd.sub o2.sub) o2.rd rfl (counts_le _) ?_
      have hsym : (counts (seg w i m) == counts (seg w (i + t) m)) = (counts (seg w (i + t) m) == counts (seg w i m)) := Bool.eq_iff_iff.2 ⟨fun e => by rw [beq_iff_eq] at *; exact e.symm, fun e => by rw [beq_iff_eq] at *; exact e.symm⟩
      cases hc : (counts (seg w (i + t) m) == counts (seg w i m))
      · rw [hc] at hsym
        rw [alikeTo_no hlt (by rw [g1, g0]; exact hc)] at h
        simp (disch := omega) [hsym]
        exact ret_sub (o1.sub.trans o2.sub) h
      · rw [hc] at hsym
        simp (disch := omega) [hsym]
        refine Rnd.mk'' M' (j + 1) o2.sub (by omega) (by (repeat (first | exact km | refine kp rfl ?_ | refine km' rfl ?_))) (by simp (disch := omega)) ⟨rfl, by omega, by omega, ?_⟩
        rw [alikeTo_succ, ha, g1, g0, hc]; rfl
    · have hj' : j = k := by omega
      subst hj'
      rw [ha] at h
      simp (disch := omega)
      exact ret_sub o1.sub h
  · have hle' : (w.length : Int) < i + p := by omega
    rw [decide_eq_false hle, Bool.false_and] at h
    simp (disch := omega) [e0, hle']
    exact ret_of h
/-- The abelian powers that begin at i, of the first q lengths. -/
def rowsAt (w : List UInt8) (k i q : Nat) : List (List Int) := ((List.range q).filter fun m => abel w i (m + 1) k).map fun (m : Nat) => [(i : Int), ((m + 1 : Nat) : Int)]
def rowsTo (w : List UInt8) (k n : Nat) : List (List Int) := (List.range n).flatMap fun i => rowsAt w k i ((w.length - i) / k)
theorem rowsAt_succ (w : List UInt8) (k i q : Nat) : rowsAt w k i (q + 1) = rowsAt w k i q ++ if abel w i (q + 1) k then [[(i : Int), ((q + 1 : Nat) : Int)]] else [] := by
  unfold rowsAt
  rw [List.range_succ, List.filter_append, List.map_append]
  congr 1
  cases h : abel w i (q + 1) k <;> simp [h]
theorem rowsTo_succ (w : List UInt8) (k n : Nat) : rowsTo w k (n + 1) = rowsTo w k n ++ rowsAt w k n ((w.length - n) / k) := by simp [rowsTo, List.range_succ]
theorem rowsAt_len (w : List UInt8) (k i q : Nat) : (rowsAt w k i q).length ≤ q ∧ sizes (rowsAt w k i q) ≤ 2 * q := by
  induction q with
  | zero => exact ⟨Nat.le_refl _, Nat.le_refl _⟩
  | succ q ih =>
    rw [rowsAt_succ]
    cases h : abel w i (q + 1) k
    · simp only [Bool.false_eq_true, if_false, List.append_nil]; omega
    · simp only [if_true, sizes_snoc, List.length_append, List.length_singleton, List.length_cons, List.length_nil]; omega
theorem rowsTo_len (w : List UInt8) (k n : Nat) : (rowsTo w k n).length ≤ n * w.length ∧ sizes (rowsTo w k n) ≤ 2 * (n * w.length) := by
  induction n with
  | zero => simp [rowsTo, sizes]
  | succ n ih =>
    have h1 := rowsAt_len w k n ((w.length - n) / k)
    have h2 : (w.length - n) / k ≤ w.length := Nat.le_trans (Nat.div_le_self _ _) (Nat.sub_le _ _)
    have h3 : ∀ A B : List (List Int), sizes (A ++ B) = sizes A + sizes B := fun A B => by simp [sizes]
    rw [rowsTo_succ, List.length_append, h3, Nat.succ_mul]
    omega
theorem fits_iff {w : List UInt8} {i q k : Nat} (hk : 1 ≤ k) (hi : i ≤ w.length) : i + k * (q + 1) ≤ w.length ↔ q < (w.length - i) / k := by
  rw [Nat.lt_iff_add_one_le, Nat.le_div_iff_mul_le hk, Nat.mul_comm]
  omega
theorem row_push {M N M' : Mem} {v : Value} {rs : List Value} {rows : List (List Int)} (h : RowsOf M rs rows N) (ho : Own N v rs M') {b : Nat} (hb : M' b = none) (r : List Int) (n c : Nat) (hn : r.length = n) (hc : n ≤ c) :
    RowsOf M (rs ++ [.slice (some ⟨b, 0, none⟩) n c]) (rows ++ [r]) (N.put b (.cells true (ints r) c)) ∧ Own (N.put b (.cells true (ints r) c)) v rs (M'.put b (.cells true (ints r) c)) := by
  subst hn
  exact ⟨h.snoc (none_of ho.sub hb) hc, ho.push hb _⟩
theorem l07Powers_does (w : List UInt8) (k : Nat) (M : Mem) (R : Value → Mem → Prop) (hl : w.length ≤ 60) (hk : 1 ≤ k) (hk' : k ≤ 60) (hw : w.all isL = true)
    (h : ∀ v rs N M', RowsOf M rs (rowsTo w k w.length) N → Own N v rs M' → R v M') : Does Try.prog 74 [str w, .int .i64 k] M R := by
  refine does_fn tab_ok Try.func74 rfl (by kernel_rfl) (by kernel_rfl) Try.ntmps74 Try.results74 rfl ?_
  simp (disch := omega)
  first
    | (intro b0 hb0
       simp (disch := omega)
       refine loop_to tab_ok [5, 7, 8, 12, 13, 14, 15, 16, 17, 18, 19, 20, 21, 22, 23, 24, 25, 26, 27, 28, 29, 30, 31, 32, 33, 34, 35, 36] (fun x : Nat × List Value × Value => [(7, .int .i64 x.1), (5, x.2.2)]) (fun x M' => x.1 ≤ w.length ∧ ∃ N, RowsOf M x.2.1 (rowsTo w k x.1) N ∧ Own N x.2.2 x.2.1 M') (fun x => w.length - x.1) (0, [], .slice (some ⟨b0, 0, none⟩) 0 0) (by kernel_rfl) (by simp (disch := omega)) ⟨by simp, M, .nil, Own.new hb0 rfl (Nat.le_refl 0)⟩ ?_)
    | refine loop_to tab_ok [5, 7, 8, 12, 13, 14, 15, 16, 17, 18, 19, 20, 21, 22, 23, 24, 25, 26, 27, 28, 29, 30, 31, 32, 33, 34, 35, 36] (fun x : Nat × List Value × Value => [(7, .int .i64 x.1), (5, x.2.2)]) (fun x M' => x.1 ≤ w.length ∧ ∃ N, RowsOf M x.2.1 (rowsTo w k x.1) N ∧ Own N x.2.2 x.2.1 M') (fun x => w.length - x.1) (0, [], .slice none 0 0) (by kernel_rfl) (by simp (disch := omega)) ⟨by simp, M, .nil, Own.nil _⟩ ?_
  rintro ⟨i, rs, v⟩ M' g ⟨hi, N, hr, ho⟩
  simp only at hi hr ho
  by_cases hlt : i < w.length
  · simp (disch := omega)
    refine loop_to tab_ok [5, 8, 17, 18, 19, 20, 21, 22, 23, 24, 25, 26, 27, 28, 29, 30, 31, 32, 33, 34, 35, 36] (fun x : Nat × List Value × Value => [(8, .int .i64 (x.1 + 1)), (5, x.2.2)]) (fun x M1 => x.1 ≤ (w.length - i) / k ∧ ∃ N, RowsOf M x.2.1 (rowsTo w k i ++ rowsAt w k i x.1) N ∧ Own N x.2.2 x.2.1 M1) (fun x => (w.length - i) / k - x.1) (0, rs, v) (by kernel_rfl) (by simp (disch := omega)) ⟨by simp, N, by simpa [rowsAt] using hr, ho⟩ ?_
    rintro ⟨q, rs1, v1⟩ M1 g1 ⟨hq, N1, hr1, ho1⟩
    simp only at hq hr1 ho1
    have hdiv : (w.length - i) / k ≤ w.length := Nat.le_trans (Nat.div_le_self _ _) (Nat.sub_le _ _)
    obtain ⟨p, hp⟩ : ∃ p, p = k * (q + 1) := ⟨_, rfl⟩
    have hp' : p ≤ 60 * 61 := by rw [hp]; exact Nat.mul_le_mul hk' (by omega)
    have e1 : ((q : Int) + 1) * k = p := by rw [hp, Nat.mul_comm]; push_cast; rfl
    have e2 : (k : Int) * (q + 1) = p := by rw [hp]; push_cast; rfl
    have hiff := fits_iff (w := w) (i := i) (q := q) hk hi
    rw [← hp] at hiff
    by_cases hqlt : q < (w.length - i) / k
    · have hle := hiff.2 hqlt
      have hle' : (i : Int) + p ≤ w.length := by omega
      have hseg := seg_int (w := w) (a := i) (m := p)
      have hsl := seg_len (w := w) (a := i) (m := p) hle
      have hq1 : ((q : Int) + 1) = ((q + 1 : Nat) : Int) := by push_cast; rfl
      simp (disch := omega) [e1, e2, hle']
      try simp only [hseg]
      refine l07Power_does w i (q + 1) k _ hq1 _ _ hl (by omega) (by omega) (by omega) hk hk' hw ?_
      rw [← hp, decide_eq_true hle, Bool.true_and]
      cases hab : abel w i (q + 1) k
      · simp (disch := omega)
        refine Rnd.mk' (q + 1, rs1, v1) (by simp only; omega) (by (repeat (first | exact km | refine kp rfl ?_ | refine km' rfl ?_))) (by simp (disch := omega)) ⟨by simp only; omega, N1, ?_, ho1⟩
        simp only
        rw [rowsAt_succ, hab]
        simpa using hr1
      · simp (disch := omega)
        intro b1 hb1
        simp (disch := omega)
        intro b2 hb2
        simp (disch := omega)
        obtain ⟨hr2, ho2⟩ := row_push hr1 ho1 hb1 [(i : Int), ((q + 1 : Nat) : Int)] 2 2 rfl (Nat.le_refl 2)
        have hlr := hr1.len
        have hcount := (rowsAt_len w k i q).1
        have hcount2 := (rowsTo_len w k i).1
        have hcount3 : i * w.length ≤ 60 * 60 := Nat.mul_le_mul (by omega) hl
        rw [List.length_append] at hlr
        refine app_own ho2 ((Sub.refl _).put hb2 _) (by simp (disch := omega); rfl) rfl rfl (by omega) (by simp (disch := omega)) (by simp (disch := omega); omega) ?_
        intro v' M'' N'' ho' hs'
        simp (disch := omega)
        refine Rnd.mk'' M'' (q + 1, _, v') hs' (by simp only; omega) (by (repeat (first | exact km | refine kp rfl ?_ | refine km' rfl ?_))) (by simp (disch := omega)) ⟨by simp only; omega, _, ?_, ho'⟩
        simp only
        rw [rowsAt_succ, hab, if_pos rfl, ← List.append_assoc]
        exact hr2
    · have hle' : ¬ (i : Int) + p ≤ w.length := by intro hc; exact hqlt (hiff.1 (by omega))
      have hq' : q = (w.length - i) / k := by omega
      simp (disch := omega) [e1, e2, hle']
      refine Rnd.mk' (i + 1, rs1, v1) (by simp only; omega) (by (repeat (first | exact km | refine kp rfl ?_ | refine km' rfl ?_))) (by simp (disch := omega)) ⟨by simp only; omega, N1, ?_, ho1⟩
      simp only
      rw [rowsTo_succ, ← hq']
      exact hr1
  · have hi' : i = w.length := by omega
    subst hi'
    simp (disch := omega)
    exact ret_of (h _ _ _ _ hr ho)
theorem abelianPowers_does (w : List UInt8) (k : Nat) (M : Mem) (R : Value → Mem → Prop) (hl : w.length ≤ 60) (hk : 1 ≤ k) (hk' : k ≤ 60) (hw : w.all isL = true)
    (h : ∀ v rs N M', RowsOf M rs (rowsTo w k w.length) N → Own N v rs M' → R v M') : Does Try.prog 84 [str w, .int .i64 k] M R := by
  refine does_fn tab_ok Try.func84 rfl (by kernel_rfl) (by kernel_rfl) Try.ntmps84 Try.results84 rfl ?_
  simp (disch := omega)
  first
    | (intro b0 hb0
       simp (disch := omega)
       refine loop_to tab_ok [5, 6, 7, 10, 11, 12, 13, 14, 15, 16, 17, 18, 19, 20, 21, 22, 23, 24, 25, 26, 27, 28, 29, 30, 31, 32, 33, 34, 35, 36, 37, 38, 39] (fun x : Nat × List Value × Value => [(10, .int .i64 x.1), (5, x.2.2)]) (fun x M' => x.1 ≤ w.length ∧ ∃ N, RowsOf M x.2.1 (rowsTo w k x.1) N ∧ Own N x.2.2 x.2.1 M') (fun x => w.length - x.1) (0, [], .slice (some ⟨b0, 0, none⟩) 0 0) (by kernel_rfl) (by simp (disch := omega)) ⟨by simp, M, .nil, Own.new hb0 rfl (Nat.le_refl 0)⟩ ?_)
    | refine loop_to tab_ok [5, 6, 7, 10, 11, 12, 13, 14, 15, 16, 17, 18, 19, 20, 21, 22, 23, 24, 25, 26, 27, 28, 29, 30, 31, 32, 33, 34, 35, 36, 37, 38, 39] (fun x : Nat × List Value × Value => [(10, .int .i64 x.1), (5, x.2.2)]) (fun x M' => x.1 ≤ w.length ∧ ∃ N, RowsOf M x.2.1 (rowsTo w k x.1) N ∧ Own N x.2.2 x.2.1 M') (fun x => w.length - x.1) (0, [], .slice none 0 0) (by kernel_rfl) (by simp (disch := omega)) ⟨by simp, M, .nil, Own.nil _⟩ ?_
  rintro ⟨i, rs, v⟩ M' g ⟨hi, N, hr, ho⟩
  simp only at hi hr ho
  by_cases hlt : i < w.length
  · simp (disch := omega)
    refine loop_to tab_ok [5, 7, 13, 14, 15, 16, 17, 18, 19, 20, 21, 22, 23, 24, 25, 26, 27, 28, 29, 30, 31, 32, 33, 34, 35, 36, 37, 38] (fun x : Nat × List Value × Value => [(7, .int .i64 (x.1 + 1)), (5, x.2.2)]) (fun x M1 => x.1 ≤ (w.length - i) / k ∧ ∃ N, RowsOf M x.2.1 (rowsTo w k i ++ rowsAt w k i x.1) N ∧ Own N x.2.2 x.2.1 M1) (fun x => (w.length - i) / k - x.1) (0, rs, v) (by kernel_rfl) (by simp (disch := omega)) ⟨by simp, N, by simpa [rowsAt] using hr, ho⟩ ?_
    rintro ⟨q, rs1, v1⟩ M1 g1 ⟨hq, N1, hr1, ho1⟩
    simp only at hq hr1 ho1
    have hdiv : (w.length - i) / k ≤ w.length := Nat.le_trans (Nat.div_le_self _ _) (Nat.sub_le _ _)
    obtain ⟨p, hp⟩ : ∃ p, p = k * (q + 1) := ⟨_, rfl⟩
    have hp' : p ≤ 60 * 61 := by rw [hp]; exact Nat.mul_le_mul hk' (by omega)
    have e1 : ((q : Int) + 1) * k = p := by rw [hp, Nat.mul_comm]; push_cast; rfl
    have e2 : (k : Int) * (q + 1) = p := by rw [hp]; push_cast; rfl
    have hiff := fits_iff (w := w) (i := i) (q := q) hk hi
    rw [← hp] at hiff
    by_cases hqlt : q < (w.length - i) / k
    · have hle := hiff.2 hqlt
      have hle' : (i : Int) + p ≤ w.length := by omega
      have hseg := seg_int (w := w) (a := i) (m := p)
      have hsl := seg_len (w := w) (a := i) (m := p) hle
      have hq1 : ((q : Int) + 1) = ((q + 1 : Nat) : Int) := by push_cast; rfl
      simp (disch := omega) [e1, e2, hle']
      try simp only [hseg]
      refine isAbelian_does (seg w i p) (q + 1) k _ hq1 _ _ (by rw [hsl, hp]) (by omega) (by omega) hk (seg_all hw _ _) ?_
      rw [show alikeTo (seg w i p) (q + 1) k = abel w i (q + 1) k by unfold abel; rw [hp]]
      cases hab : abel w i (q + 1) k
      · simp (disch := omega)
        refine Rnd.mk' (q + 1, rs1, v1) (by simp only; omega) (by (repeat (first | exact km | refine kp rfl ?_ | refine km' rfl ?_))) (by simp (disch := omega)) ⟨by simp only; omega, N1, ?_, ho1⟩
        simp only
        rw [rowsAt_succ, hab]
        simpa using hr1
      · simp (disch := omega)
        intro b1 hb1
        simp (disch := omega)
        intro b2 hb2
        simp (disch := omega)
        obtain ⟨hr2, ho2⟩ := row_push hr1 ho1 hb1 [(i : Int), ((q + 1 : Nat) : Int)] 2 2 rfl (Nat.le_refl 2)
        have hlr := hr1.len
        have hcount := (rowsAt_len w k i q).1
        have hcount2 := (rowsTo_len w k i).1
        have hcount3 : i * w.length ≤ 60 * 60 := Nat.mul_le_mul (by omega) hl
        rw [List.length_append] at hlr
        refine app_own ho2 ((Sub.refl _).put hb2 _) (by simp (disch := omega); rfl) rfl rfl (by omega) (by simp (disch := omega)) (by simp (disch := omega); omega) ?_
        intro v' M'' N'' ho' hs'
        simp (disch := omega)
        refine Rnd.mk'' M'' (q + 1, _, v') hs' (by simp only; omega) (by (repeat (first | exact km | refine kp rfl ?_ | refine km' rfl ?_))) (by simp (disch := omega)) ⟨by simp only; omega, _, ?_, ho'⟩
        simp only
        rw [rowsAt_succ, hab, if_pos rfl, ← List.append_assoc]
        exact hr2
    · have hle' : ¬ (i : Int) + p ≤ w.length := by intro hc; exact hqlt (hiff.1 (by omega))
      have hq' : q = (w.length - i) / k := by omega
      simp (disch := omega) [e1, e2, hle']
      refine Rnd.mk' (i + 1, rs1, v1) (by simp only; omega) (by (repeat (first | exact km | refine kp rfl ?_ | refine km' rfl ?_))) (by simp (disch := omega)) ⟨by simp only; omega, N1, ?_, ho1⟩
      simp only
      rw [rowsTo_succ, ← hq']
      exact hr1
  · have hi' : i = w.length := by omega
    subst hi'
    simp (disch := omega)
    exact ret_of (h _ _ _ _ hr ho)
end Go.Proofs.Ytdelkgjgcdbipaa

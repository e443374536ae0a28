/- Contracts: words with squares, and the first square maker. -/
import Derived.Test.YtbefijbmgmbphaaM4
import Derived.Test.YtbefijbmgmbphaaC21
import Derived.Test.YtbefijbmgmbphaaC20
namespace Go.Proofs.Ytbefijbmgmbphaa
open Go
set_option linter.unusedSimpArgs false
set_option linter.unusedVariables false

theorem hasPeriod_does (v : List UInt8) (q : Nat) (qi : Int) (hqi : qi = q) (M : Mem) (R : Value → Mem → Prop) (hl : v.length ≤ 60) (hq : q ≤ v.length) (h : R (.bool (hp v q)) M) : Does Try.prog 154 [str v, .int .i64 qi] M R := by
  subst hqi
  refine does_fn tab_ok Try.func154 rfl (by kernel_rfl) (by kernel_rfl) Try.ntmps154 Try.results154 rfl ?_
  have e : (v.length : Int) - q = ((v.length - q : Nat) : Int) := by omega
  simp (disch := omega)
  refine draw_to tab_ok (by kernel_rfl) (by kernel_rfl) (by rfl) ?_
  simp (disch := omega) [e]
  exact ret_of h
theorem powersIn_does (w : List UInt8) (k : Nat) (M : Mem) (R : Value → Mem → Prop) (hl : w.length ≤ 60) (hk : 1 ≤ k) (hk' : k ≤ 60)
    (h : ∀ v rs N M', RowsOf M rs (rowsQT (pwP w k) w.length k w.length) N → Own N v rs M' → R v M') : Does Try.prog 172 [str w, .int .i64 k] M R := by
  refine does_fn tab_ok Try.func172 rfl (by kernel_rfl) (by kernel_rfl) Try.ntmps172 Try.results172 rfl ?_
  simp (disch := omega)
  refine loop_to tab_ok [5, 6, 7, 10, 11, 12, 13, 14, 15, 16, 17, 18, 19, 20, 21, 22, 23, 24, 25, 26, 27, 28, 29, 30, 31, 32, 33, 34, 35, 36, 37, 38, 39] (fun x : Nat × List Value × Value => [(10, .int .i64 x.1), (5, x.2.2)]) (fun x M' => x.1 ≤ w.length ∧ ∃ N, RowsOf M x.2.1 (rowsQT (pwP w k) w.length k x.1) N ∧ Own N x.2.2 x.2.1 M') (fun x => w.length - x.1) (0, [], .slice none 0 0) (by kernel_rfl) (by simp (disch := omega)) ⟨by simp, M, .nil, Own.nil _⟩ ?_
  rintro ⟨i, rs, v⟩ M' g ⟨hi, N, hr, ho⟩
  simp only at hi hr ho
  by_cases hlt : i < w.length
  · simp (disch := omega)
    refine loop_to tab_ok [5, 7, 13, 14, 15, 16, 17, 18, 19, 20, 21, 22, 23, 24, 25, 26, 27, 28, 29, 30, 31, 32, 33, 34, 35, 36, 37, 38] (fun x : Nat × List Value × Value => [(7, .int .i64 (x.1 + 1)), (5, x.2.2)]) (fun x M1 => x.1 ≤ (w.length - i) / k ∧ ∃ N, RowsOf M x.2.1 (rowsQT (pwP w k) w.length k i ++ rowsQ (pwP w k) i x.1) N ∧ Own N x.2.2 x.2.1 M1) (fun x => (w.length - i) / k - x.1) (0, rs, v) (by kernel_rfl) (by simp (disch := omega)) ⟨by simp, N, by simpa [rowsQ] using hr, ho⟩ ?_
    rintro ⟨q, rs1, v1⟩ M1 g1 ⟨hq, N1, hr1, ho1⟩
    simp only at hq hr1 ho1
    have hdiv : (w.length - i) / k ≤ w.length := Nat.le_trans (Nat.div_le_self _ _) (Nat.sub_le _ _)
    obtain ⟨p, hpp⟩ : ∃ p, p = k * (q + 1) := ⟨_, rfl⟩
    have hp' : p ≤ 60 * 61 := by rw [hpp]; exact Nat.mul_le_mul hk' (by omega)
    have e2 : (k : Int) * (q + 1) = p := by rw [hpp]; push_cast; rfl
    have hqp : q + 1 ≤ p := by rw [hpp]; exact Nat.le_mul_of_pos_left _ hk
    have hiff := fits_iff (w := w) (i := i) (q := q) hk hi
    rw [← hpp] at hiff
    by_cases hqlt : q < (w.length - i) / k
    · have hle := hiff.2 hqlt
      have hle' : (i : Int) + p ≤ w.length := by omega
      have hseg := seg_int (w := w) (a := i) (m := p)
      have hsl := seg_len (w := w) (a := i) (m := p) hle
      have hq1 : ((q : Int) + 1) = ((q + 1 : Nat) : Int) := by push_cast; rfl
      simp (disch := omega) [e2, hle']
      try simp only [hseg]
      refine hasPeriod_does (seg w i p) (q + 1) _ hq1 _ _ (by omega) (by omega) ?_
      rw [show hp (seg w i p) (q + 1) = pwP w k i (q + 1) by unfold pwP; rw [hpp]]
      cases hab : pwP w k i (q + 1)
      · simp (disch := omega)
        refine Rnd.mk' (q + 1, rs1, v1) (by simp only; omega) (by (repeat (first | exact km | refine kp rfl ?_ | refine km' rfl ?_))) (by simp (disch := omega)) ⟨by simp only; omega, N1, ?_, ho1⟩
        simp only
        rw [rowsQ_succ, hab]
        simpa using hr1
      · simp (disch := omega)
        intro b1 hb1
        simp (disch := omega)
        intro b2 hb2
        simp (disch := omega)
        obtain ⟨hr2, ho2⟩ := row_push hr1 ho1 hb1 [(i : Int), ((q + 1 : Nat) : Int)] 2 2 rfl (Nat.le_refl 2)
        have hlr := hr1.len
        have hcount := rowsQ_len (pwP w k) i q
        have hcount2 := rowsQT_len (pwP w k) w.length k i
        have hcount3 : i * w.length ≤ 60 * 60 := Nat.mul_le_mul (by omega) hl
        rw [List.length_append] at hlr
        refine app_own ho2 ((Sub.refl _).put hb2 _) (by simp (disch := omega); rfl) rfl rfl (by omega) (by simp (disch := omega)) (by simp (disch := omega); omega) ?_
        intro v' M'' N'' ho' hs'
        simp (disch := omega)
        refine Rnd.mk'' M'' (q + 1, _, v') hs' (by simp only; omega) (by (repeat (first | exact km | refine kp rfl ?_ | refine km' rfl ?_))) (by simp (disch := omega)) ⟨by simp only; omega, _, ?_, ho'⟩
        simp only
        rw [rowsQ_succ, hab, if_pos rfl, ← List.append_assoc]
        exact hr2
    · have hle' : ¬ (i : Int) + p ≤ w.length := by intro hc; exact hqlt (hiff.1 (by omega))
      have hq' : q = (w.length - i) / k := by omega
      simp (disch := omega) [e2, hle']
      refine Rnd.mk' (i + 1, rs1, v1) (by simp only; omega) (by (repeat (first | exact km | refine kp rfl ?_ | refine km' rfl ?_))) (by simp (disch := omega)) ⟨by simp only; omega, N1, ?_, ho1⟩
      simp only
      rw [rowsQT_succ, ← hq']
      exact hr1
  · have hi' : i = w.length := by omega
    subst hi'
    simp (disch := omega)
    exact ret_of (h _ _ _ _ hr ho)
theorem isSquareFree_does (w : List UInt8) (M : Mem) (R : Value → Mem → Prop) (hl : w.length ≤ 60) (h : R (.bool (!sqIn w)) M) : Does Try.prog 103 [str w] M R := by
  refine does_fn tab_ok Try.func103 rfl (by kernel_rfl) (by kernel_rfl) Try.ntmps103 Try.results103 rfl ?_
  simp (disch := omega)
  refine powersIn_does w 2 _ _ hl (by omega) (by omega) ?_
  intro v rs N M' hr ho
  have hlen := hr.len
  obtain ⟨a, c, rfl, _⟩ := ho.rd.opened
  have e : ((rs.length : Int) == 0) = !sqIn w := by
    rw [← rowsQT_sq, hlen]
    cases rowsQT (pwP w 2) w.length 2 w.length with
    | nil => rfl
    | cons a l => exact beq_eq_false_iff_ne.2 (by simp; omega)
  simp (disch := omega) [e]
  exact ret_sub (hr.sub.trans ho.sub) h
theorem endsFree_does (w : List UInt8) (M : Mem) (R : Value → Mem → Prop) (hl : w.length ≤ 60) (h : R (.bool (!endsSq w)) M) : Does Try.prog 171 [str w] M R := by
  refine does_fn tab_ok Try.func171 rfl (by kernel_rfl) (by kernel_rfl) Try.ntmps171 Try.results171 rfl ?_
  simp (disch := omega)
  refine loop_to tab_ok [2, 3, 4, 5, 6, 7, 8, 9, 10, 11, 12, 13, 14, 15, 16, 17, 18, 19] (fun q : Nat => [(3, .int .i64 (q + 1))]) (fun q M' => M' = M ∧ q ≤ w.length / 2 ∧ endsSqTo w q = false) (fun q => w.length / 2 - q) 0 (by kernel_rfl) (by simp (disch := omega)) ⟨rfl, by omega, rfl⟩ ?_
  rintro q M' g ⟨rfl, hq, hno⟩
  by_cases hlt : q < w.length / 2
  · have hle' : (2 : Int) * (q + 1) ≤ w.length := by omega
    have e1 : (w.length : Int) - 2 * (q + 1) = ((w.length - 2 * (q + 1) : Nat) : Int) := by omega
    have e2 : ((w.length : Int) - 2 * (q + 1)).toNat = w.length - 2 * (q + 1) := by omega
    have hs := endsSqTo_succ w q
    simp (disch := omega) [hle', e2]
    refine hasPeriod_does _ (q + 1) _ (by push_cast; rfl) _ _ (by rw [List.length_drop]; omega) (by rw [List.length_drop]; omega) ?_
    cases hh : hp (w.drop (w.length - 2 * (q + 1))) (q + 1)
    · rw [hno, hh] at hs
      simp (disch := omega)
      exact Rnd.mk' (q + 1) (by omega) (by (repeat (first | exact km | refine kp rfl ?_ | refine km' rfl ?_))) (by simp (disch := omega)) ⟨rfl, by omega, hs⟩
    · rw [show endsSq w = true from endsSqTo_yes hlt hh] at h
      simp (disch := omega)
      exact ret_of h
  · have hle' : ¬ (2 : Int) * (q + 1) ≤ w.length := by omega
    have hq' : q = w.length / 2 := by omega
    rw [show endsSq w = endsSqTo w (w.length / 2) from rfl, ← hq', hno] at h
    simp (disch := omega) [hle']
    exact ret_of h
theorem l06Square_does (w : List UInt8) (M : Mem) (R : Value → Mem → Prop) (hl : w.length ≤ 60) (h : R (.bool (endsSq w)) M) : Does Try.prog 176 [str w] M R := by
  refine does_fn tab_ok Try.func176 rfl (by kernel_rfl) (by kernel_rfl) Try.ntmps176 Try.results176 rfl ?_
  simp (disch := omega)
  refine loop_to tab_ok [2, 3, 4, 5, 6, 7, 8, 9, 10, 11, 12, 13, 14, 15, 16, 17, 18, 19, 20, 21, 22, 23, 24, 25, 26, 27, 28] (fun q : Nat => [(3, .int .i64 (q + 1))]) (fun q M' => M' = M ∧ q ≤ w.length / 2 ∧ endsSqTo w q = false) (fun q => w.length / 2 - q) 0 (by kernel_rfl) (by simp (disch := omega)) ⟨rfl, by omega, rfl⟩ ?_
  rintro q M' g ⟨rfl, hq, hno⟩
  by_cases hlt : q < w.length / 2
  · have hle' : (2 : Int) * (q + 1) ≤ w.length := by omega
    have e1 : ((w.length : Int) - (q + 1)).toNat = w.length - (q + 1) := by omega
    have e2 : ((w.length : Int) - 2 * (q + 1)).toNat = w.length - 2 * (q + 1) := by omega
    have hs := endsSqTo_succ w q
    have hsq := sq_at (u := w) (q := q + 1) (by omega)
    simp (disch := omega) [hle']
    refine draw_to tab_ok (by kernel_rfl) (by kernel_rfl) (by rfl) ?_
    simp (disch := omega) [e1, e2, hsq]
    cases hh : hp (w.drop (w.length - 2 * (q + 1))) (q + 1)
    · rw [hno, hh] at hs
      simp (disch := omega)
      exact Rnd.mk' (q + 1) (by omega) (by (repeat (first | exact km | refine kp rfl ?_ | refine km' rfl ?_))) (by simp (disch := omega)) ⟨rfl, by omega, hs⟩
    · rw [show endsSq w = true from endsSqTo_yes hlt hh] at h
      simp (disch := omega)
      exact ret_of h
  · have hle' : ¬ (2 : Int) * (q + 1) ≤ w.length := by omega
    have hq' : q = w.length / 2 := by omega
    rw [show endsSq w = endsSqTo w (w.length / 2) from rfl, ← hq', hno] at h
    simp (disch := omega) [hle']
    exact ret_of h
def sqTo (w : List UInt8) (n : Nat) : Bool := (List.range n).any fun m => endsSq (w.take m)
theorem sqTo_succ (w : List UInt8) (n : Nat) : sqTo w (n + 1) = (sqTo w n || endsSq (w.take n)) := by simp [sqTo, List.range_succ]
theorem sqTo_two (w : List UInt8) : sqTo w 2 = false := by
  have h : ∀ n, n < 2 → endsSq (w.take n) = false := fun n hn => by
    unfold endsSq
    rw [show (w.take n).length / 2 = 0 by rw [List.length_take]; omega]; rfl
  rw [show (2 : Nat) = 0 + 1 + 1 from rfl, sqTo_succ, sqTo_succ, h 0 (by omega), h 1 (by omega)]; rfl
theorem sqTo_yes {w : List UInt8} {n m : Nat} (h : n < m) (hh : endsSq (w.take n) = true) : sqTo w m = true := by
  unfold sqTo
  rw [List.any_eq_true]
  exact ⟨n, List.mem_range.2 h, hh⟩
theorem l06Has_does (w : List UInt8) (M : Mem) (R : Value → Mem → Prop) (hl : w.length ≤ 60) (h : R (.bool (sqIn w)) M) : Does Try.prog 174 [str w] M R := by
  refine does_fn tab_ok Try.func174 rfl (by kernel_rfl) (by kernel_rfl) Try.ntmps174 Try.results174 rfl ?_
  rw [sqIn_ends] at h
  simp (disch := omega)
  refine loop_to tab_ok [2, 3, 4, 5, 6, 7, 8, 9, 10, 11, 12, 13] (fun n : Nat => [(3, .int .i64 n)]) (fun n M' => M' = M ∧ 2 ≤ n ∧ (n ≤ w.length + 1 ∨ n = 2) ∧ sqTo w n = false) (fun n => w.length + 2 - n) 2 (by kernel_rfl) (by simp (disch := omega)) ⟨rfl, by omega, by omega, sqTo_two w⟩ ?_
  rintro n M' g ⟨rfl, hn2, hn, hno⟩
  by_cases hlt : n ≤ w.length
  · have hs := sqTo_succ w n
    simp (disch := omega)
    refine l06Square_does _ _ _ (by rw [List.length_take]; omega) ?_
    cases hh : endsSq (w.take n)
    · rw [hno, hh] at hs
      simp (disch := omega)
      exact Rnd.mk' (n + 1) (by omega) (by (repeat (first | exact km | refine kp rfl ?_ | refine km' rfl ?_))) (by simp (disch := omega)) ⟨rfl, by omega, by omega, hs⟩
    · rw [show (List.range (w.length + 1)).any (fun n => endsSq (w.take n)) = true from sqTo_yes (by omega) hh] at h
      simp (disch := omega)
      exact ret_of h
  · have hno' : (List.range (w.length + 1)).any (fun n => endsSq (w.take n)) = false := by
      cases hh : sqTo w (w.length + 1) with
      | false => exact hh
      | true =>
        unfold sqTo at hh
        obtain ⟨m, hm, h2⟩ := List.any_eq_true.1 hh
        have := List.mem_range.1 hm
        rw [sqTo_yes (m := n) (by omega) h2] at hno
        cases hno
    rw [hno'] at h
    simp (disch := omega)
    exact ret_of h
theorem grown_does {S : Type} (k n : Nat) (hk : k ≤ 5) (hn : n ≤ 50) (fv : Value) (step : S → List UInt8 → S × Bool) (J : S → Mem → Prop) (ht : ∀ s w M R, w.length = n → Lt0 k w → J s M → (∀ M', J (step s w).1 M' → R (.bool (step s w).2) M') → vCallV Try.prog fv [str w] R M) :
    ∀ (d : Nat) (w : List UInt8) (s : S) (M : Mem) (R : Value → Mem → Prop), w.length + d = n → Lt0 k w → J s M → (∀ M', J (runS step s (grL k d w)).1 M' → R (.bool (runS step s (grL k d w)).2) M') → Does Try.prog 100 [str w, .int .i64 n, .int .i64 k, fv] M R
  | 0, w, s, M, R, hd, hlt0, hJ, h => by
    have hb : ((w.length : Int) == n) = true := by rw [beq_iff_eq]; omega
    unfold grL at h
    rw [runS_one] at h
    refine does_fn tab_ok Try.func100 rfl (by kernel_rfl) (by kernel_rfl) Try.ntmps100 Try.results100 rfl ?_
    simp (disch := omega)
    refine size_does w _ _ (by omega) ?_
    simp (disch := omega) [hb]
    refine ht s w _ _ (by omega) hlt0 hJ fun M' hM' => ?_
    simp (disch := omega)
    exact ret_of (h M' hM')
  | d + 1, w, s, M, R, hd, hlt0, hJ, h => by
    have hb : ((w.length : Int) == n) = false := beq_eq_false_iff_ne.2 (by omega)
    refine does_fn tab_ok Try.func100 rfl (by kernel_rfl) (by kernel_rfl) Try.ntmps100 Try.results100 rfl ?_
    simp (disch := omega)
    refine size_does w _ _ (by omega) ?_
    simp (disch := omega) [hb]
    refine loop_to tab_ok [8, 9, 10, 19, 20, 21, 22, 23, 24, 25, 26, 27, 28, 29, 30, 31, 32, 33, 34, 35] (fun i : Nat => [(19, .int .i64 i)]) (fun i M' => i ≤ k ∧ J (runS step s (grN k d w i)).1 M' ∧ (runS step s (grN k d w i)).2 = false) (fun i => k - i) 0 (by kernel_rfl) (by simp (disch := omega)) ⟨by omega, by rw [grN_zero, runS_nil]; exact hJ, by rw [grN_zero, runS_nil]⟩ ?_
    rintro i M' g ⟨hi, hM', hno⟩
    have hs := grN_succ k d w i
    by_cases hlt : i < k
    · simp (disch := omega)
      refine letterN_does i _ _ (by omega) ?_
      simp (disch := omega)
      have hl' : (w ++ [ltr i]).length = w.length + 1 := by simp
      refine endsFree_does _ _ _ (by omega) ?_
      unfold grS at hs
      cases he : endsSq (w ++ [ltr i])
      · rw [he, if_neg (by decide)] at hs
        simp (disch := omega)
        refine grown_does k n hk hn fv step J ht d (w ++ [ltr i]) (runS step s (grN k d w i)).1 _ _ (by omega) (lt0_snoc hlt0 hlt (by omega)) hM' fun M2 hM2 => ?_
        rw [← runS_on hno, ← hs] at hM2
        have hrun : runS step (runS step s (grN k d w i)).1 (grL k d (w ++ [ltr i])) = runS step s (grN k d w (i + 1)) := by rw [hs, runS_on hno]
        rw [hrun]
        cases hr : (runS step s (grN k d w (i + 1))).2
        · simp (disch := omega)
          exact Rnd.mk' (i + 1) (by omega) (by (repeat (first | exact km | refine kp rfl ?_ | refine km' rfl ?_))) (by simp (disch := omega)) ⟨by omega, hM2, hr⟩
        · obtain ⟨rest, hrest⟩ := grL_split k d w (i := i + 1) (by omega)
          rw [hrest, runS_stop hr, hr] at h
          simp (disch := omega)
          exact ret_of (h M2 hM2)
      · rw [he, if_pos rfl, List.append_nil] at hs
        simp (disch := omega)
        exact Rnd.mk' (i + 1) (by omega) (by (repeat (first | exact km | refine kp rfl ?_ | refine km' rfl ?_))) (by simp (disch := omega)) ⟨by omega, by rw [hs]; exact hM', by rw [hs]; exact hno⟩
    · have hi' : i = k := by omega
      rw [hi'] at hM' hno
      rw [grL_all k d w, hno] at h
      simp (disch := omega)
      exact ret_of (h M' hM')
theorem find_append_some {l r : List (List UInt8)} {p : List UInt8 → Bool} {u : List UInt8} (h : l.find? p = some u) : (l ++ r).find? p = some u := by rw [List.find?_append, h]; rfl
theorem find_append_none {l r : List (List UInt8)} {p : List UInt8 → Bool} (h : l.find? p = none) : (l ++ r).find? p = r.find? p := by rw [List.find?_append, h]; rfl
def sqI (ws : List (List UInt8)) (u : List UInt8) : Bool := sqIn (imgOf ws u)
def fnd (ws : List (List UInt8)) (l : List (List UInt8)) : Option (List UInt8) := l.find? (sqI ws)
theorem fnd_nil (ws : List (List UInt8)) : fnd ws [] = none := rfl
theorem fnd_one (ws : List (List UInt8)) (u : List UInt8) : fnd ws [u] = if sqI ws u then some u else none := by
  unfold fnd
  rw [List.find?_cons]
  cases sqI ws u <;> rfl
theorem l06Maker_does (v : Value) (ws : List (List UInt8)) (n : Nat) (hm : isMor ws = true) (hn : n ≤ 5) : ∀ (d : Nat) (w : List UInt8) (M : Mem) (R : Value → Mem → Prop), Rd M v (strs ws) → w.length + d = n → Lt0 ws.length w → (∀ u, fnd ws (grL ws.length d w) = some u → R (.tuple #[str u, .bool true]) M) → (fnd ws (grL ws.length d w) = none → ∀ x, R (.tuple #[str x, .bool false]) M) →
    Does Try.prog 107 [.agg #[v], str w, .int .i64 n] M R
  | 0, w, M, R, hv, hd, hL, h1, h0 => by
    have hb : ((w.length : Int) == n) = true := by rw [beq_iff_eq]; omega
    have hil := img_len hm (l := w) hL
    unfold grL at h1 h0
    rw [fnd_one] at h1 h0
    obtain ⟨a, c, rfl, ha⟩ := hv.opened
    rw [strs_length] at hv ⊢
    refine does_fn tab_ok Try.func107 rfl (by kernel_rfl) (by kernel_rfl) Try.ntmps107 Try.results107 rfl ?_
    simp (disch := omega)
    intro b3 hb3
    have hv3 := hv.put hb3 (.cells true [.slice a ws.length c] 1)
    have hs3 := (Sub.refl M).put hb3 (.cells true [.slice a ws.length c] 1)
    simp (disch := omega) [hb]
    refine l06Image_does _ ws w _ _ hv3 hm (by omega) hL ?_
    simp (disch := omega)
    refine l06Has_does _ _ _ (by omega) ?_
    unfold sqI at h1 h0
    cases hq : sqIn (imgOf ws w)
    · rw [hq] at h0
      simp (disch := omega)
      exact ret_sub hs3 (h0 rfl w)
    · rw [hq] at h1
      simp (disch := omega)
      exact ret_sub hs3 (h1 w rfl)
  | d + 1, w, M, R, hv, hd, hL, h1, h0 => by
    have hb : ((w.length : Int) == n) = false := beq_eq_false_iff_ne.2 (by omega)
    have h15 := mor_len hm
    obtain ⟨a, c, rfl, ha⟩ := hv.opened
    rw [strs_length] at hv ⊢
    refine does_fn tab_ok Try.func107 rfl (by kernel_rfl) (by kernel_rfl) Try.ntmps107 Try.results107 rfl ?_
    simp (disch := omega)
    intro b3 hb3
    have hv3 := hv.put hb3 (.cells true [.slice a ws.length c] 1)
    have hs3 := (Sub.refl M).put hb3 (.cells true [.slice a ws.length c] 1)
    have k3 : (M.put b3 (.cells true [.slice a ws.length c] 1)) b3 = some (.cells true [.slice a ws.length c] 1) := put_same _ _ _
    simp (disch := omega) [hb]
    generalize M.put b3 (.cells true [.slice a ws.length c] 1) = N at *
    refine loop_to tab_ok [6, 7, 8, 9, 10, 11, 21, 22, 23, 24, 25, 26, 27, 28, 29, 30, 31, 32, 33, 34, 35, 36, 37, 38, 39, 40, 41, 42, 43, 44] (fun i : Nat => [(8, .int .i64 i)]) (fun i M' => M' = N ∧ i ≤ ws.length ∧ fnd ws (grN ws.length d w i) = none) (fun i => ws.length - i) 0 (by kernel_rfl) (by simp (disch := omega)) ⟨rfl, by omega, rfl⟩ ?_
    rintro i M' g ⟨rfl, hi, hno⟩
    have hs := grN_succ ws.length d w i
    by_cases hlt : i < ws.length
    · have hr := rune_ltr (i := i) (by omega)
      have hl' : (w ++ [ltr i]).length = w.length + 1 := by simp
      simp (disch := omega) [get_of k3, wrap_rune, hr]
      refine l06Square_does _ _ _ (by omega) ?_
      unfold grS at hs
      cases he : endsSq (w ++ [ltr i])
      · rw [he, if_neg (by decide)] at hs
        have hfs : fnd ws (grN ws.length d w (i + 1)) = fnd ws (grL ws.length d (w ++ [ltr i])) := by
          rw [hs]; exact find_append_none hno
        simp (disch := omega) [sub_of k3]
        refine l06Maker_does _ ws n hm hn d (w ++ [ltr i]) _ _ hv3 (by omega) (lt0_snoc hL hlt (by omega)) ?_ ?_
        · intro u hu
          obtain ⟨rest, hrest⟩ := grL_split ws.length d w (i := i + 1) (by omega)
          have := h1 u (by rw [hrest]; exact find_append_some (by rw [← hu, ← hfs]; rfl))
          simp (disch := omega)
          exact ret_sub hs3 this
        · intro hnn x
          simp (disch := omega)
          exact Rnd.mk' (i + 1) (by omega) (by (repeat (first | exact km | refine kp rfl ?_ | refine km' rfl ?_))) (by simp (disch := omega)) ⟨rfl, by omega, by rw [hfs]; exact hnn⟩
      · rw [he, if_pos rfl, List.append_nil] at hs
        simp (disch := omega)
        exact Rnd.mk' (i + 1) (by omega) (by (repeat (first | exact km | refine kp rfl ?_ | refine km' rfl ?_))) (by simp (disch := omega)) ⟨rfl, by omega, by rw [hs]; exact hno⟩
    · have hi' : i = ws.length := by omega
      rw [hi'] at hno
      simp (disch := omega) [get_of k3]
      exact ret_sub hs3 (h0 (by rw [grL_all]; exact hno) [])
def makeT (ws : List (List UInt8)) : List UInt8 := if testC ws = 0 then (if testN ws ≤ 5 then (match makeTo ws (testN ws + 1) with | some u => u | none => []) else []) else []
def makeC (ws : List (List UInt8)) : Int := if testC ws = 0 then (if testN ws ≤ 5 then (match makeTo ws (testN ws + 1) with | some _ => 0 | none => 4) else 3) else testC ws
theorem testC_zero {ws : List (List UInt8)} (h : testC ws = 0) : isMor ws = true ∧ testN ws ≠ 0 := by
  unfold testC at h
  split at h
  · rename_i h1
    split at h
    · cases h
    · rename_i h2; exact ⟨h1, h2⟩
  · cases h
theorem spec_FirstSquareMaker (v : Value) (ws : List (List UInt8)) (M : Mem) (R : Value → Mem → Prop) (hv : Rd M v (strs ws)) (hf : Fine ws) (hn : ws.length ≤ 1099511627776) (h : R (tup2 (str (makeT ws)) (makeC ws)) M) : Does Try.prog 31 [.agg #[v]] M R := by
  refine does_fn tab_ok Try.func31 rfl (by kernel_rfl) (by kernel_rfl) Try.ntmps31 Try.results31 rfl ?_
  obtain ⟨a, c, rfl, ha⟩ := hv.opened
  rw [strs_length] at hv ⊢
  simp (disch := omega)
  intro b1 hb1
  have hs1 : Sub M (M.put b1 (.cells true [.slice a ws.length c] 1)) := (Sub.refl M).put hb1 _
  have hv1 := hv.put hb1 (.cells true [.slice a ws.length c] 1)
  have k1 : (M.put b1 (.cells true [.slice a ws.length c] 1)) b1 = some (.cells true [.slice a ws.length c] 1) := put_same _ _ _
  simp (disch := omega)
  generalize M.put b1 (.cells true [.slice a ws.length c] 1) = N at *
  refine l06Is_does _ ws _ _ hv1 hf hn ?_
  unfold makeT makeC testC at h
  cases hm : isMor ws
  · rw [hm] at h
    simp (disch := omega)
    exact ret_sub hs1 h
  · rw [hm, if_pos rfl] at h
    simp (disch := omega) [sub_of k1]
    refine l06Test_does _ ws _ _ hv1 hm ?_
    generalize testN ws = r at *
    by_cases h0 : r = 0
    · subst h0
      simp (disch := omega)
      exact ret_sub hs1 h
    · have h0' : ((r : Int) == 0) = false := beq_eq_false_iff_ne.2 (by omega)
      rw [if_neg h0, if_pos rfl, if_pos rfl] at h
      by_cases h5 : r ≤ 5
      · have h5' : ¬ (5 : Int) < r := by omega
        rw [if_pos h5, if_pos h5] at h
        simp (disch := omega) [h0', h5']
        refine loop_to tab_ok [2, 3, 5, 6, 7, 19, 20, 21, 22, 23, 24, 25, 26, 27, 28, 29, 30, 31] (fun m : Nat => [(5, .int .i64 m)]) (fun m M' => M' = N ∧ m ≤ r + 1 ∧ makeTo ws m = none) (fun m => r + 1 - m) 0 (by kernel_rfl) (by simp (disch := omega)) ⟨rfl, by omega, rfl⟩ ?_
        rintro m M' g ⟨rfl, hmr, hno⟩
        have hs := makeTo_succ ws m
        rw [hno, Option.none_or] at hs
        by_cases hlt : m ≤ r
        · simp (disch := omega) [sub_of k1]
          refine l06Maker_does _ ws m hm (by omega) m [] _ _ hv1 (by simp) (lt0_nil _) ?_ ?_
          · intro u hu
            rw [makeTo_yes (m := r + 1) (by omega) hno (show makerF ws m [] = some u from hu)] at h
            simp (disch := omega)
            exact ret_sub hs1 h
          · intro hnn x
            simp (disch := omega)
            exact Rnd.mk' (m + 1) (by omega) (by (repeat (first | exact km | refine kp rfl ?_ | refine km' rfl ?_))) (by simp (disch := omega)) ⟨rfl, by omega, by rw [hs]; exact hnn⟩
        · have hm' : m = r + 1 := by omega
          rw [← hm', hno] at h
          simp (disch := omega)
          exact ret_sub hs1 h
      · have h5' : (5 : Int) < r := by omega
        rw [if_neg h5, if_neg h5] at h
        simp (disch := omega) [h0', h5']
        exact ret_sub hs1 h
theorem impl_FirstSquareMaker (v : Value) (ws : List (List UInt8)) (M : Mem) (R : Value → Mem → Prop) (hv : Rd M v (strs ws)) (hf : Fine ws) (hn : ws.length ≤ 1099511627776) (h : R (tup2 (str (makeT ws)) (makeC ws)) M) : Does Try.prog 30 [.agg #[v]] M R := by
  refine does_fn tab_ok Try.func30 rfl (by kernel_rfl) (by kernel_rfl) Try.ntmps30 Try.results30 rfl ?_
  obtain ⟨a, c, rfl, ha⟩ := hv.opened
  rw [strs_length] at hv ⊢
  simp (disch := omega)
  intro b1 hb1
  have hs1 : Sub M (M.put b1 (.cells true [.slice a ws.length c] 1)) := (Sub.refl M).put hb1 _
  have hv1 := hv.put hb1 (.cells true [.slice a ws.length c] 1)
  have k1 : (M.put b1 (.cells true [.slice a ws.length c] 1)) b1 = some (.cells true [.slice a ws.length c] 1) := put_same _ _ _
  simp (disch := omega)
  generalize M.put b1 (.cells true [.slice a ws.length c] 1) = N at *
  refine testLength_does _ ws _ _ hv1 hf hn ?_
  unfold makeT makeC at h
  have hT : testT ws = if testC ws = 0 then testN ws else 0 := by
    unfold testT testC
    cases isMor ws
    · rfl
    · by_cases h0 : testN ws = 0
      · simp [h0]
      · simp [h0]
  by_cases hc : testC ws = 0
  · obtain ⟨hm, h0⟩ := testC_zero hc
    have h15 := mor_len hm
    rw [if_pos hc, if_pos hc] at h
    rw [if_pos hc] at hT
    rw [hT, hc]
    generalize testN ws = r at *
    by_cases h5 : r ≤ 5
    · have h5' : ¬ (5 : Int) < r := by omega
      rw [if_pos h5, if_pos h5] at h
      unfold tup2
      simp (disch := omega) [h5']
      refine loop_to tab_ok [2, 3, 6, 7, 22, 23, 24, 25, 26, 27, 28, 29, 30, 31] (fun m : Nat => [(22, .int .i64 m)]) (fun m M' => M' = N ∧ m ≤ r + 1 ∧ makeTo ws m = none) (fun m => r + 1 - m) 0 (by kernel_rfl) (by simp (disch := omega)) ⟨rfl, by omega, rfl⟩ ?_
      rintro m M' g ⟨rfl, hmr, hno⟩
      have hs := makeTo_succ ws m
      rw [hno, Option.none_or] at hs
      by_cases hlt : m < r + 1
      · simp (disch := omega)
        intro b7 hb7
        have hne : b1 ≠ b7 := by rintro rfl; rw [k1] at hb7; cases hb7
        simp (disch := omega) [sub_of k1]
        refine letters_does _ (strs ws) _ _ (hv1.put hb7 _) (by rw [strs_length]; omega) ?_
        rw [strs_length]
        simp (disch := omega)
        refine grown_does (S := List UInt8) ws.length m (by omega) (by omega) _ (stepM ws) (fun s K => K b7 = some (.cells true [str s] 1) ∧ ∃ A, Sub M' A ∧ K = A.put b7 (.cells true [str s] 1)) ?_ m [] [] _ _ (by simp) (lt0_nil _) ⟨put_same _ _ _, M', Sub.refl M', rfl⟩ ?_
        · rintro s w K R' hw hL ⟨q7, A, sA, rfl⟩ hR
          have q1 : (A.put b7 (.cells true [str s] 1)) b1 = some (.cells true [.slice a ws.length c] 1) := by rw [put_ne _ _ hne]; exact sA _ _ k1
          have hil := img_len hm (l := w) hL
          simp (disch := omega)
          refine does_fn tab_ok Try.func102 rfl (by kernel_rfl) (by kernel_rfl) Try.ntmps102 Try.results102 rfl ?_
          simp (disch := omega) [q1, sub_of (sA _ _ k1)]
          have hv2 : Rd (A.put b7 (.cells true [str w] 1)) (.slice a ws.length c) (strs ws) := by
            refine hv1.sub ?_
            intro i B hB
            have : i ≠ b7 := by rintro rfl; rw [hB] at hb7; cases hb7
            rw [put_ne _ _ this]
            exact sA _ _ hB
          refine image_does _ ws w _ _ hv2 hm (by omega) hL ?_
          simp (disch := omega)
          refine isSquareFree_does _ _ _ (by omega) ?_
          simp (disch := omega)
          exact ret_of (hR _ ⟨put_same _ _ _, A, sA, rfl⟩)
        · rintro K ⟨q7, A, sA, rfl⟩
          have hrf := runS_find ws (grL ws.length m []) []
          rw [hrf.1]
          have hmk : makerF ws m [] = (grL ws.length m []).find? (fun u => sqIn (imgOf ws u)) := rfl
          cases hq : (grL ws.length m []).find? (fun u => sqIn (imgOf ws u)) with
          | none =>
            rw [hq] at hmk
            simp (disch := omega)
            refine Rnd.mk'' M' (m + 1) ?_ (by omega) (by (repeat (first | exact km | refine kp rfl ?_ | refine km' rfl ?_))) (by simp (disch := omega)) ⟨rfl, by omega, by rw [hs]; exact hmk⟩
            intro i B hB
            have : i ≠ b7 := by rintro rfl; rw [hB] at hb7; cases hb7
            rw [put_ne _ _ this]
            exact sA _ _ hB
          | some u =>
            rw [hq] at hmk
            have hu := hrf.2 u hq
            rw [hu]
            rw [makeTo_yes hlt hno hmk] at h
            simp (disch := omega)
            refine ret_sub ?_ h
            intro i B hB
            have : i ≠ b7 := by rintro rfl; rw [hs1 _ _ hB] at hb7; cases hb7
            rw [put_ne _ _ this]
            exact sA _ _ (hs1 _ _ hB)
      · have hm' : m = r + 1 := by omega
        rw [← hm', hno] at h
        simp (disch := omega)
        exact ret_sub hs1 h
    · have h5' : (5 : Int) < r := by omega
      rw [if_neg h5, if_neg h5] at h
      unfold tup2
      simp (disch := omega) [h5']
      exact ret_sub hs1 h
  · rw [if_neg hc, if_neg hc] at h
    rw [if_neg hc] at hT
    have hb : (testC ws == 0) = false := beq_eq_false_iff_ne.2 hc
    rw [hT]
    generalize testC ws = code at *
    unfold tup2
    simp (disch := omega) [hb, hc]
    exact ret_sub hs1 h
end Go.Proofs.Ytbefijbmgmbphaa

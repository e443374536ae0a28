/- Contracts and law: abelian periods. -/
import Derived.Test.YthpcojnpiggaiaaGreatCB
namespace Go.Proofs.YthpcojnpiggaiaaGreat
open Go
set_option linter.unusedSimpArgs false
set_option linter.unusedVariables false

def underTo (xs ys : List Int) (n : Nat) : Bool := (List.range n).all fun i => decide (xs.getD i 0 ≤ ys.getD i 0)
def under (xs ys : List Int) : Bool := underTo xs ys xs.length
theorem underTo_succ (xs ys : List Int) (n : Nat) : underTo xs ys (n + 1) = (underTo xs ys n && decide (xs.getD n 0 ≤ ys.getD n 0)) := by simp [underTo, List.range_succ]
theorem underTo_no {xs ys : List Int} {i n : Nat} (h : i < n) (hc : ¬ xs.getD i 0 ≤ ys.getD i 0) : underTo xs ys n = false := by
  unfold underTo
  rw [List.all_eq_false]
  exact ⟨i, List.mem_range.2 h, by simpa using hc⟩
/-- Is (h, p) an abelian period? -/
def perB (w : List UInt8) (h p : Nat) : Bool :=
  decide (h + p ≤ w.length) && (alikeTo (seg w h ((w.length - h) / p * p)) p ((w.length - h) / p) &&
    (under (counts (w.take h)) (counts (seg w h p)) && under (counts (w.drop (h + (w.length - h) / p * p))) (counts (seg w h p))))
theorem take_all {w : List UInt8} (h : w.all isL = true) (n : Nat) : (w.take n).all isL = true := by
  rw [List.all_eq_true] at *; exact fun u hu => h u (List.mem_of_mem_take hu)
theorem drop_all {w : List UInt8} (h : w.all isL = true) (n : Nat) : (w.drop n).all isL = true := by
  rw [List.all_eq_true] at *; exact fun u hu => h u (List.mem_of_mem_drop hu)
theorem counts_getD (l : List UInt8) {k : Nat} (h : k < 5) : (counts l).getD k 0 = cnt l k := by rw [List.getD_eq_getElem?_getD, counts_get l h]; rfl
theorem l07Within_does (v v' : Value) (l k : List UInt8) (M : Mem) (R : Value → Mem → Prop) (hx : Rd M v (ints (counts l))) (hy : Rd M v' (ints (counts k)))
    (h : R (.bool (under (counts l) (counts k))) M) : Does Tryz.prog 123 [v, v'] M R := by
  refine does_fn tab_ok Tryz.func123 rfl (by kernel_rfl) (by kernel_rfl) Tryz.ntmps123 Tryz.results123 rfl ?_
  obtain ⟨a, c, rfl, ha⟩ := hx.opened
  obtain ⟨a', c', rfl, ha'⟩ := hy.opened
  rw [ints_length, counts_length] at ha ha' ⊢
  rw [ints_length, counts_length]
  rcases ha with h0 | ⟨b, o, rfl, hs⟩
  · omega
  rcases ha' with h0 | ⟨b', o', rfl, hs'⟩
  · omega
  simp (disch := omega)
  refine loop_to tab_ok [4, 5, 6, 7, 8, 9, 10, 11, 12, 13, 14, 15, 16, 17, 18, 19, 20] (fun i : Nat => [(5, .int .i64 i)]) (fun i M' => M' = M ∧ i ≤ 5 ∧ underTo (counts l) (counts k) i = true) (fun i => 5 - i) 0 (by kernel_rfl) (by simp (disch := omega)) ⟨rfl, by omega, rfl⟩ ?_
  rintro i M' g ⟨rfl, hi, he⟩
  by_cases hlt : i < 5
  · have hg := hs i hlt
    have hg' := hs' i hlt
    rw [ints_get, counts_get _ hlt] at hg hg'
    simp (disch := omega)
    refine draw_to tab_ok (by kernel_rfl) (by kernel_rfl) (by rfl) ?_
    by_cases hq : cnt k i < cnt l i
    · simp (disch := omega) [hg, hg', hq]
      have : under (counts l) (counts k) = false := underTo_no (i := i) hlt (by rw [counts_getD _ hlt, counts_getD _ hlt]; omega)
      rw [this] at h
      exact ret_of h
    · simp (disch := omega) [hg, hg', hq]
      refine Rnd.mk' (i + 1) (by omega) (by (repeat (first | exact km | refine kp rfl ?_ | refine km' rfl ?_))) (by simp (disch := omega)) ⟨rfl, by omega, ?_⟩
      rw [underTo_succ, he, counts_getD _ hlt, counts_getD _ hlt, decide_eq_true (by omega)]; rfl
  · have hi' : i = 5 := by omega
    subst hi'
    simp (disch := omega)
    have : under (counts l) (counts k) = true := he
    rw [this] at h
    exact ret_of h
theorem isUnder_does (l k : List UInt8) (M : Mem) (R : Value → Mem → Prop) (hl : l.length ≤ 60) (hk : k.length ≤ 60) (hw : l.all isL = true) (hw' : k.all isL = true)
    (h : R (.bool (under (counts l) (counts k))) M) : Does Tryz.prog 122 [str l, str k] M R := by
  refine does_fn tab_ok Tryz.func122 rfl (by kernel_rfl) (by kernel_rfl) Tryz.ntmps122 Tryz.results122 rfl ?_
  simp (disch := omega)
  refine count_does k _ _ (by omega) hw' ?_
  intro v1 M1 o1
  simp (disch := omega)
  refine count_does l _ _ (by omega) hw ?_
  intro v2 M2 o2
  have r1 := o1.rd.sub o2.sub
  have r2 := o2.rd
  have hsub := o1.sub.trans o2.sub
  obtain ⟨a, c, rfl, ha⟩ := r2.opened
  obtain ⟨a', c', rfl, ha'⟩ := r1.opened
  rw [ints_length, counts_length] at ha ha' ⊢
  rw [ints_length, counts_length]
  rcases ha with h0 | ⟨b, o, rfl, hs⟩
  · omega
  rcases ha' with h0 | ⟨b', o', rfl, hs'⟩
  · omega
  simp (disch := omega)
  refine loop_to tab_ok [4, 6, 7, 13, 14, 15, 16, 17, 18, 19, 20, 21, 22, 23, 24] (fun i : Nat => [(13, .int .i64 i)]) (fun i M' => M' = M2 ∧ i ≤ 5 ∧ underTo (counts l) (counts k) i = true) (fun i => 5 - i) 0 (by kernel_rfl) (by simp (disch := omega)) ⟨rfl, by omega, rfl⟩ ?_
  rintro i M' g ⟨rfl, hi, he⟩
  by_cases hlt : i < 5
  · have hg := hs i hlt
    have hg' := hs' i hlt
    rw [ints_get, counts_get _ hlt] at hg hg'
    by_cases hq : cnt k i < cnt l i
    · simp (disch := omega) [hg, hg', hq]
      have : under (counts l) (counts k) = false := underTo_no (i := i) hlt (by rw [counts_getD _ hlt, counts_getD _ hlt]; omega)
      rw [this] at h
      exact ret_sub hsub h
    · simp (disch := omega) [hg, hg', hq]
      refine Rnd.mk' (i + 1) (by omega) (by (repeat (first | exact km | refine kp rfl ?_ | refine km' rfl ?_))) (by simp (disch := omega)) ⟨rfl, by omega, ?_⟩
      rw [underTo_succ, he, counts_getD _ hlt, counts_getD _ hlt, decide_eq_true (by omega)]; rfl
  · have hi' : i = 5 := by omega
    subst hi'
    simp (disch := omega)
    have : under (counts l) (counts k) = true := he
    rw [this] at h
    exact ret_sub hsub h
theorem l07Period_does (w : List UInt8) (hh p : Nat) (M : Mem) (R : Value → Mem → Prop) (hl : w.length ≤ 60) (hp : 1 ≤ p) (hp' : p ≤ 60) (hhp : hh < p) (hle0 : hh ≤ w.length) (hw : w.all isL = true)
    (h : R (.bool (perB w hh p)) M) : Does Tryz.prog 90 [str w, .int .i64 hh, .int .i64 p] M R := by
  refine does_fn tab_ok Tryz.func90 rfl (by kernel_rfl) (by kernel_rfl) Tryz.ntmps90 Tryz.results90 rfl ?_
  obtain ⟨k, hk⟩ : ∃ k, k = (w.length - hh) / p := ⟨_, rfl⟩
  have ek : ((w.length : Int) - hh).tdiv p = k := by
    rw [hk, Int.tdiv_eq_ediv_of_nonneg (by omega)]
    have : ((w.length : Int) - hh) = ((w.length - hh : Nat) : Int) := by omega
    rw [this]; push_cast; rfl
  have hkl : k ≤ 60 := by rw [hk]; exact Nat.le_trans (Nat.div_le_self _ _) (by omega)
  obtain ⟨q, hq⟩ : ∃ q, q = k * p := ⟨_, rfl⟩
  have hqn : q ≤ w.length - hh := by rw [hq, hk]; exact Nat.div_mul_le_self _ _
  have ekp : (k : Int) * p = q := by rw [hq]; push_cast; rfl
  unfold perB at h
  rw [← hk, ← hq] at h
  by_cases hle : hh + p ≤ w.length
  · have hle' : ¬ (w.length : Int) < (hh : Int) + p := by omega
    rw [decide_eq_true hle, Bool.true_and] at h
    have hk1 : 1 ≤ k := by rw [hk, Nat.le_div_iff_mul_le (by omega)]; omega
    have hseg := seg_int (w := w) (a := hh) (m := p)
    have n1 := seg_len (w := w) (a := hh) (m := p) hle
    simp (disch := omega) [ek, hle']
    simp only [hseg]
    refine l01Count_does (seg w hh p) _ _ (by omega) (seg_all hw _ _) ?_
    intro v M1 o1
    simp (disch := omega)
    refine loop_to tab_ok [6, 10, 30, 31, 32, 33, 34, 35, 36, 37, 38, 39, 40, 41, 42, 43, 44, 45, 46, 47, 48, 49, 50, 51] (fun j : Nat => [(10, .int .i64 j)]) (fun j M' => M' = M1 ∧ 1 ≤ j ∧ j ≤ k ∧ alikeTo (seg w hh q) p j = true) (fun j => k - j) 1 (by kernel_rfl) (by simp (disch := omega)) ⟨rfl, Nat.le_refl 1, hk1, alikeTo_one _ _⟩ ?_
    rintro j M' g ⟨rfl, hj1, hj, ha⟩
    by_cases hlt : j < k
    · obtain ⟨t, ht⟩ : ∃ t, t = j * p := ⟨_, rfl⟩
      have e1 : (j : Int) * p = t := by rw [ht]; push_cast; rfl
      have e2 : ((j : Int) + 1) * p = (t + p : Nat) := by rw [ht]; push_cast; rw [Int.add_mul]; omega
      have h1 : t + p ≤ q := by rw [ht, hq, ← Nat.succ_mul]; exact Nat.mul_le_mul_right _ hlt
      have n2 := seg_len (w := w) (a := hh + t) (m := p) (by omega)
      have hs2 : List.drop ((hh : Int) + t).toNat (List.take ((hh : Int) + ((t : Int) + p)).toNat w) = seg w (hh + t) p := by
        unfold seg
        rw [show ((hh : Int) + t).toNat = hh + t by omega, show ((hh : Int) + ((t : Int) + p)).toNat = hh + t + p by omega]
      have g1 : seg (seg w hh q) (j * p) p = seg w (hh + t) p := by rw [← ht]; exact seg_seg h1
      have g0 : seg (seg w hh q) 0 p = seg w hh p := by rw [seg_seg (by omega)]; rfl
      simp (disch := omega) [e1, e2]
      simp only [hs2]
      refine l01Count_does (seg w (hh + t) p) _ _ (by omega) (seg_all hw _ _) ?_
      intro v2 M2 o2
      simp (disch := omega)
      refine l07Same_does v v2 _ _ _ _ (o1.rd.sub o2.sub) o2.rd rfl (counts_le _) ?_
      have hsym : (counts (seg w hh p) == counts (seg w (hh + t) p)) = (counts (seg w (hh + t) p) == counts (seg w hh p)) := Bool.eq_iff_iff.2 ⟨fun e => by rw [beq_iff_eq] at *; exact e.symm, fun e => by rw [beq_iff_eq] at *; exact e.symm⟩
      cases hc : (counts (seg w (hh + t) p) == counts (seg w hh p))
      · rw [hc] at hsym
        rw [alikeTo_no hlt (by rw [g1, g0]; exact hc), Bool.false_and] at h
        simp (disch := omega) [hsym]
        exact ret_sub (o1.sub.trans o2.sub) h
      · rw [hc] at hsym
        simp (disch := omega) [hsym]
        refine Rnd.mk'' M' (j + 1) o2.sub (by omega) (by (repeat (first | exact km | refine kp rfl ?_ | refine km' rfl ?_))) (by simp (disch := omega)) ⟨rfl, by omega, by omega, ?_⟩
        rw [alikeTo_succ, ha, g1, g0, hc]; rfl
    · have hj' : j = k := by omega
      rw [← hj', ha, Bool.true_and] at h
      have n3 : (w.take hh).length ≤ 60 := by rw [List.length_take]; omega
      have n4 : (w.drop (hh + q)).length ≤ 60 := by rw [List.length_drop]; omega
      have hlt' : ¬ (j : Int) < k := by omega
      simp (disch := omega) [hlt']
      refine l01Count_does (w.take hh) _ _ (by omega) (take_all hw _) ?_
      intro v3 M3 o3
      simp (disch := omega)
      refine l07Within_does v3 v _ _ _ _ o3.rd (o1.rd.sub o3.sub) ?_
      cases hu : under (counts (w.take hh)) (counts (seg w hh p))
      · rw [hu, Bool.false_and] at h
        simp (disch := omega)
        exact ret_sub (o1.sub.trans o3.sub) h
      · rw [hu, Bool.true_and] at h
        have hd : List.drop ((hh : Int) + q).toNat w = w.drop (hh + q) := by rw [show ((hh : Int) + q).toNat = hh + q by omega]
        simp (disch := omega) [ekp]
        simp only [hd]
        refine l01Count_does (w.drop (hh + q)) _ _ (by omega) (drop_all hw _) ?_
        intro v4 M4 o4
        simp (disch := omega)
        refine l07Within_does v4 v _ _ _ _ o4.rd ((o1.rd.sub o3.sub).sub o4.sub) ?_
        simp (disch := omega)
        exact ret_sub ((o1.sub.trans o3.sub).trans o4.sub) h
  · have hle' : (w.length : Int) < (hh : Int) + p := by omega
    rw [decide_eq_false hle, Bool.false_and] at h
    simp (disch := omega) [ek, hle']
    exact ret_of h
theorem isAbelianPeriod_does (w : List UInt8) (hh p : Nat) (M : Mem) (R : Value → Mem → Prop) (hl : w.length ≤ 60) (hp : 1 ≤ p) (hp' : p ≤ 60) (hhp : hh < p) (hle0 : hh ≤ w.length) (hw : w.all isL = true)
    (h : R (.bool (perB w hh p)) M) : Does Tryz.prog 89 [str w, .int .i64 hh, .int .i64 p] M R := by
  refine does_fn tab_ok Tryz.func89 rfl (by kernel_rfl) (by kernel_rfl) Tryz.ntmps89 Tryz.results89 rfl ?_
  obtain ⟨k, hk⟩ : ∃ k, k = (w.length - hh) / p := ⟨_, rfl⟩
  have ek : ((w.length : Int) - hh).tdiv p = k := by
    rw [hk, Int.tdiv_eq_ediv_of_nonneg (by omega)]
    have : ((w.length : Int) - hh) = ((w.length - hh : Nat) : Int) := by omega
    rw [this]; push_cast; rfl
  have hkl : k ≤ 60 := by rw [hk]; exact Nat.le_trans (Nat.div_le_self _ _) (by omega)
  obtain ⟨q, hq⟩ : ∃ q, q = k * p := ⟨_, rfl⟩
  have hqn : q ≤ w.length - hh := by rw [hq, hk]; exact Nat.div_mul_le_self _ _
  have ekp : (k : Int) * p = q := by rw [hq]; push_cast; rfl
  have e0 : ¬ (w.length : Int) < hh := by omega
  unfold perB at h
  rw [← hk, ← hq] at h
  by_cases hle : hh + p ≤ w.length
  · rw [decide_eq_true hle, Bool.true_and] at h
    have hk1 : 1 ≤ k := by rw [hk, Nat.le_div_iff_mul_le (by omega)]; omega
    have hk1' : ¬ (k : Int) < 1 := by omega
    have hpq : p ≤ q := by rw [hq]; exact Nat.le_mul_of_pos_left _ hk1
    have hseg := seg_int (w := w) (a := hh) (m := q)
    have nq := seg_len (w := w) (a := hh) (m := q) (by omega)
    have hd : List.drop ((hh : Int) + q).toNat w = w.drop (hh + q) := by rw [show ((hh : Int) + q).toNat = hh + q by omega]
    have g0 : (seg w hh q).take p = seg w hh p := by rw [← seg_zero, seg_seg (by omega)]; rfl
    have n1 := seg_len (w := w) (a := hh) (m := p) hle
    have n3 : (w.take hh).length ≤ 60 := by rw [List.length_take]; omega
    have n4 : (w.drop (hh + q)).length ≤ 60 := by rw [List.length_drop]; omega
    simp (disch := omega) [ek, e0, hk1']
    refine draw_to tab_ok (by kernel_rfl) (by kernel_rfl) (by rfl) ?_
    simp (disch := omega) [ekp]
    simp only [hseg, hd]
    refine draw_to tab_ok (by kernel_rfl) (by kernel_rfl) (by rfl) ?_
    simp (disch := omega)
    refine vQCall_at (a := []) (c := []) (isAbelian_does (seg w hh q) p k _ rfl _ _ (by rw [nq, hq]) (by omega) hp hk1 (seg_all hw _ _) ⟨rfl, rfl⟩) ?_
    cases ha : alikeTo (seg w hh q) p k
    · rw [ha, Bool.false_and] at h
      simp (disch := omega)
      exact ret_of h
    · rw [ha, Bool.true_and] at h
      simp (disch := omega) [g0]
      refine vQCall_at (a := []) (c := []) (isUnder_does (w.take hh) (seg w hh p) _ _ n3 (by omega) (take_all hw _) (seg_all hw _ _) ⟨rfl, rfl⟩) ?_
      cases hu : under (counts (w.take hh)) (counts (seg w hh p))
      · rw [hu, Bool.false_and] at h
        simp (disch := omega)
        exact ret_of h
      · rw [hu, Bool.true_and] at h
        simp (disch := omega) [g0]
        refine vQCall_at (a := []) (c := []) (isUnder_does (w.drop (hh + q)) (seg w hh p) _ _ n4 (by omega) (drop_all hw _) (seg_all hw _ _) ⟨rfl, rfl⟩) ?_
        simp (disch := omega)
        exact ret_of h
  · have hk0 : k = 0 := by rw [hk]; exact Nat.div_eq_of_lt (by omega)
    have hk1' : (k : Int) < 1 := by omega
    rw [decide_eq_false hle, Bool.false_and] at h
    simp (disch := omega) [ek, e0, hk1']
    exact ret_of h
def rowsP (w : List UInt8) (p q : Nat) : List (List Int) := ((List.range q).filter fun h => perB w h p).map fun (h : Nat) => [(h : Int), (p : Int)]
def rowsPT (w : List UInt8) (n : Nat) : List (List Int) := (List.range n).flatMap fun p => rowsP w (p + 1) (p + 1)
theorem rowsP_succ (w : List UInt8) (p q : Nat) : rowsP w p (q + 1) = rowsP w p q ++ if perB w q p then [[(q : Int), (p : Int)]] else [] := by
  unfold rowsP
  rw [List.range_succ, List.filter_append, List.map_append]
  congr 1
  cases h : perB w q p <;> simp [h]
theorem rowsPT_succ (w : List UInt8) (n : Nat) : rowsPT w (n + 1) = rowsPT w n ++ rowsP w (n + 1) (n + 1) := by simp [rowsPT, List.range_succ]
theorem rowsP_len (w : List UInt8) (p q : Nat) : (rowsP w p q).length ≤ q ∧ sizes (rowsP w p q) ≤ 2 * q := by
  induction q with
  | zero => exact ⟨Nat.le_refl _, Nat.le_refl _⟩
  | succ q ih =>
    rw [rowsP_succ]
    cases h : perB w q p
    · simp only [Bool.false_eq_true, if_false, List.append_nil]; omega
    · simp only [if_true, sizes_snoc, List.length_append, List.length_singleton, List.length_cons, List.length_nil]; omega
theorem rowsPT_len (w : List UInt8) (n : Nat) : (rowsPT w n).length ≤ n * n ∧ sizes (rowsPT w n) ≤ 2 * (n * n) := by
  induction n with
  | zero => simp [rowsPT, sizes]
  | succ n ih =>
    have h1 := rowsP_len w (n + 1) (n + 1)
    have h3 : ∀ A B : List (List Int), sizes (A ++ B) = sizes A + sizes B := fun A B => by simp [sizes]
    rw [rowsPT_succ, List.length_append, h3, Nat.succ_mul, Nat.mul_succ]
    omega
def perR (w : List UInt8) : List (List Int) := if isWord w then rowsPT w w.length else []
theorem perR_len (w : List UInt8) : (perR w).length ≤ 3600 ∧ sizes (perR w) ≤ 7200 := by
  unfold perR
  split
  · rename_i hw
    have h := rowsPT_len w w.length
    have h2 : w.length * w.length ≤ 60 * 60 := Nat.mul_le_mul (isWord_len hw) (isWord_len hw)
    omega
  · simp [sizes]
theorem perR_row {w : List UInt8} : ∀ r ∈ perR w, r.length = 2 := by
  unfold perR
  split
  · intro r hr
    obtain ⟨i, _, hr⟩ := List.mem_flatMap.1 hr
    obtain ⟨m, _, rfl⟩ := List.mem_map.1 hr
    rfl
  · simp
theorem spec_AbelianPeriods (w : List UInt8) (M : Mem) (R : Value → Mem → Prop) (hl : w.length ≤ 1099511627776) (h : LstSS (wcode w) (perR w) M R) : Does Tryz.prog 37 [str w] M R := by
  unfold wcode perR at h
  refine does_fn tab_ok Tryz.func37 rfl (by kernel_rfl) (by kernel_rfl) Tryz.ntmps37 Tryz.results37 rfl ?_
  simp (disch := omega)
  refine l01Is_does w _ _ hl ?_
  cases hw : isWord w
  · rw [hw] at h
    simp (disch := omega)
    exact ret_of (h _ _ _ _ .nil (Own.nil M))
  · rw [hw, if_pos rfl, if_pos rfl] at h
    simp (disch := omega)
    intro b0 hb0
    simp (disch := omega)
    have h60 := isWord_len hw
    refine loop_to tab_ok [4, 5, 6, 11, 12, 13, 14, 15, 16, 17, 18, 19, 20, 21, 22, 23, 24, 25, 26, 27, 28, 29, 30, 31] (fun x : Nat × List Value × Value => [(5, .int .i64 (x.1 + 1)), (4, x.2.2)]) (fun x M' => x.1 ≤ w.length ∧ ∃ N, RowsOf (M) x.2.1 (rowsPT w x.1) N ∧ Own N x.2.2 x.2.1 M') (fun x => w.length - x.1) (0, [], .slice (some ⟨b0, 0, none⟩) 0 0) (by kernel_rfl) (by simp (disch := omega)) ⟨by simp, M, .nil, Own.new hb0 rfl (Nat.le_refl 0)⟩ ?_
    rintro ⟨P, rs, v⟩ M' g ⟨hP, N, hr, ho⟩
    simp only at hP hr ho
    by_cases hlt : P < w.length
    · have hlt' : (P : Int) + 1 ≤ w.length := by omega
      simp (disch := omega) [hlt']
      refine loop_to tab_ok [4, 6, 17, 18, 19, 20, 21, 22, 23, 24, 25, 26, 27, 28, 29, 30, 31] (fun x : Nat × List Value × Value => [(6, .int .i64 x.1), (4, x.2.2)]) (fun x M1 => x.1 ≤ P + 1 ∧ ∃ N, RowsOf (M) x.2.1 (rowsPT w P ++ rowsP w (P + 1) x.1) N ∧ Own N x.2.2 x.2.1 M1) (fun x => P + 1 - x.1) (0, rs, v) (by kernel_rfl) (by simp (disch := omega)) ⟨by simp, N, by simpa [rowsP] using hr, ho⟩ ?_
      rintro ⟨q, rs1, v1⟩ M1 g1 ⟨hq, N1, hr1, ho1⟩
      simp only at hq hr1 ho1
      by_cases hqlt : q < P + 1
      · have hq1 : ((P : Int) + 1) = ((P + 1 : Nat) : Int) := by push_cast; rfl
        have hql : (q : Int) < (P : Int) + 1 := by omega
        simp (disch := omega) [hql]
        rw [hq1]
        refine l07Period_does w q (P + 1) _ _ h60 (by omega) (by omega) (by omega) (by omega) (isWord_all hw) ?_
        cases hab : perB w q (P + 1)
        · simp (disch := omega)
          refine Rnd.mk' (q + 1, rs1, v1) (by simp only; omega) (by (repeat (first | exact km | refine kp rfl ?_ | refine km' rfl ?_))) (by simp (disch := omega)) ⟨by simp only; omega, N1, ?_, ho1⟩
          simp only
          rw [rowsP_succ, hab]
          simpa using hr1
        · simp (disch := omega)
          intro b1' hb1'
          simp (disch := omega)
          intro b2 hb2
          simp (disch := omega)
          obtain ⟨hr2, ho2⟩ := row_push hr1 ho1 hb1' [(q : Int), ((P + 1 : Nat) : Int)] 2 2 rfl (Nat.le_refl 2)
          have hlr := hr1.len
          have hcount := (rowsP_len w (P + 1) q).1
          have hcount2 := (rowsPT_len w P).1
          have hcount3 : P * P ≤ 60 * 60 := Nat.mul_le_mul (by omega) (by omega)
          rw [List.length_append] at hlr
          refine app_own ho2 ((Sub.refl _).put hb2 _) (by simp (disch := omega); rfl) rfl rfl (by omega) (by simp (disch := omega)) (by simp (disch := omega); omega) ?_
          intro v' M'' N'' ho' hs'
          simp (disch := omega)
          refine Rnd.mk'' M'' (q + 1, _, v') hs' (by simp only; omega) (by (repeat (first | exact km | refine kp rfl ?_ | refine km' rfl ?_))) (by simp (disch := omega)) ⟨by simp only; omega, _, ?_, ho'⟩
          simp only
          rw [rowsP_succ, hab, if_pos rfl, ← List.append_assoc]
          exact hr2
      · have hq' : q = P + 1 := by omega
        have hql : ¬ (q : Int) < (P : Int) + 1 := by omega
        simp (disch := omega) [hql]
        refine Rnd.mk' (P + 1, rs1, v1) (by simp only; omega) (by (repeat (first | exact km | refine kp rfl ?_ | refine km' rfl ?_))) (by simp (disch := omega)) ⟨by simp only; omega, N1, ?_, ho1⟩
        simp only
        rw [rowsPT_succ, ← hq']
        rw [← hq'] at hr1
        exact hr1
    · have hP' : P = w.length := by omega
      have hlt' : ¬ (P : Int) + 1 ≤ w.length := by omega
      rw [hP'] at hr
      simp (disch := omega) [hlt']
      obtain ⟨N2, M2, q1, q2, q3⟩ := base_SS hr ho (Sub.refl M)
      exact ret_sub q3 (h v rs N2 M2 q1 q2)
theorem impl_AbelianPeriods (w : List UInt8) (M : Mem) (R : Value → Mem → Prop) (hl : w.length ≤ 1099511627776) (h : LstSS (wcode w) (perR w) M R) : Does Tryz.prog 36 [str w] M R := by
  unfold wcode perR at h
  refine does_fn tab_ok Tryz.func36 rfl (by kernel_rfl) (by kernel_rfl) Tryz.ntmps36 Tryz.results36 rfl ?_
  simp (disch := omega)
  intro b1 hb1
  simp (disch := omega)
  have hs1 : Sub M (M.put b1 (.cells true [str w] 1)) := (Sub.refl _).put hb1 _
  refine wordCode_does _ _ [w] true (fun _ => True) _ _ (Rd.new rfl (Nat.le_refl 1)) (fine1 hl) (by simp) trivial stab_true (always_tells _) ?_
  rw [codeOf1]
  cases hw : isWord w
  · rw [hw] at h
    simp (disch := omega)
    exact ret_sub hs1 (h _ _ _ _ .nil (Own.nil M))
  · rw [hw, if_pos rfl, if_pos rfl] at h
    simp (disch := omega)
    have h60 := isWord_len hw
    refine loop_to tab_ok [5, 6, 7, 14, 15, 16, 17, 18, 19, 20, 21, 22, 23, 24, 25, 26, 27, 28, 29, 30, 31, 32, 33, 34] (fun x : Nat × List Value × Value => [(6, .int .i64 (x.1 + 1)), (5, x.2.2)]) (fun x M' => x.1 ≤ w.length ∧ ∃ N, RowsOf (M.put b1 (.cells true [str w] 1)) x.2.1 (rowsPT w x.1) N ∧ Own N x.2.2 x.2.1 M') (fun x => w.length - x.1) (0, [], .slice none 0 0) (by kernel_rfl) (by simp (disch := omega)) ⟨by simp, M.put b1 (.cells true [str w] 1), .nil, Own.nil _⟩ ?_
    rintro ⟨P, rs, v⟩ M' g ⟨hP, N, hr, ho⟩
    simp only at hP hr ho
    by_cases hlt : P < w.length
    · have hlt' : (P : Int) + 1 ≤ w.length := by omega
      simp (disch := omega) [hlt']
      refine loop_to tab_ok [5, 7, 21, 22, 23, 24, 25, 26, 27, 28, 29, 30, 31, 32, 33, 34] (fun x : Nat × List Value × Value => [(21, .int .i64 x.1), (5, x.2.2)]) (fun x M1 => x.1 ≤ P + 1 ∧ ∃ N, RowsOf (M.put b1 (.cells true [str w] 1)) x.2.1 (rowsPT w P ++ rowsP w (P + 1) x.1) N ∧ Own N x.2.2 x.2.1 M1) (fun x => P + 1 - x.1) (0, rs, v) (by kernel_rfl) (by simp (disch := omega)) ⟨by simp, N, by simpa [rowsP] using hr, ho⟩ ?_
      rintro ⟨q, rs1, v1⟩ M1 g1 ⟨hq, N1, hr1, ho1⟩
      simp only at hq hr1 ho1
      by_cases hqlt : q < P + 1
      · have hq1 : ((P : Int) + 1) = ((P + 1 : Nat) : Int) := by push_cast; rfl
        have hql : (q : Int) < (P : Int) + 1 := by omega
        simp (disch := omega) [hql]
        rw [hq1]
        refine isAbelianPeriod_does w q (P + 1) _ _ h60 (by omega) (by omega) (by omega) (by omega) (isWord_all hw) ?_
        cases hab : perB w q (P + 1)
        · simp (disch := omega)
          refine Rnd.mk' (q + 1, rs1, v1) (by simp only; omega) (by (repeat (first | exact km | refine kp rfl ?_ | refine km' rfl ?_))) (by simp (disch := omega)) ⟨by simp only; omega, N1, ?_, ho1⟩
          simp only
          rw [rowsP_succ, hab]
          simpa using hr1
        · simp (disch := omega)
          intro b1' hb1'
          simp (disch := omega)
          intro b2 hb2
          simp (disch := omega)
          obtain ⟨hr2, ho2⟩ := row_push hr1 ho1 hb1' [(q : Int), ((P + 1 : Nat) : Int)] 2 2 rfl (Nat.le_refl 2)
          have hlr := hr1.len
          have hcount := (rowsP_len w (P + 1) q).1
          have hcount2 := (rowsPT_len w P).1
          have hcount3 : P * P ≤ 60 * 60 := Nat.mul_le_mul (by omega) (by omega)
          rw [List.length_append] at hlr
          refine app_own ho2 ((Sub.refl _).put hb2 _) (by simp (disch := omega); rfl) rfl rfl (by omega) (by simp (disch := omega)) (by simp (disch := omega); omega) ?_
          intro v' M'' N'' ho' hs'
          simp (disch := omega)
          refine Rnd.mk'' M'' (q + 1, _, v') hs' (by simp only; omega) (by (repeat (first | exact km | refine kp rfl ?_ | refine km' rfl ?_))) (by simp (disch := omega)) ⟨by simp only; omega, _, ?_, ho'⟩
          simp only
          rw [rowsP_succ, hab, if_pos rfl, ← List.append_assoc]
          exact hr2
      · have hq' : q = P + 1 := by omega
        have hql : ¬ (q : Int) < (P : Int) + 1 := by omega
        simp (disch := omega) [hql]
        refine Rnd.mk' (P + 1, rs1, v1) (by simp only; omega) (by (repeat (first | exact km | refine kp rfl ?_ | refine km' rfl ?_))) (by simp (disch := omega)) ⟨by simp only; omega, N1, ?_, ho1⟩
        simp only
        rw [rowsPT_succ, ← hq']
        rw [← hq'] at hr1
        exact hr1
    · have hP' : P = w.length := by omega
      have hlt' : ¬ (P : Int) + 1 ≤ w.length := by omega
      rw [hP'] at hr
      simp (disch := omega) [hlt']
      obtain ⟨N2, M2, q1, q2, q3⟩ := base_SS hr ho hs1
      exact ret_sub q3 (h v rs N2 M2 q1 q2)
end Go.Proofs.YthpcojnpiggaiaaGreat

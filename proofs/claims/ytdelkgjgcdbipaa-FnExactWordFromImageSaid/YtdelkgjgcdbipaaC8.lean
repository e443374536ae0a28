/- Contracts: abelian powers. -/
import Derived.Test.YtdelkgjgcdbipaaC7
namespace Go.Proofs.Ytdelkgjgcdbipaa
open Go
set_option linter.unusedSimpArgs false
set_option linter.unusedVariables false

def seg (w : List UInt8) (a m : Nat) : List UInt8 := (w.take (a + m)).drop a
theorem seg_len {w : List UInt8} {a m : Nat} (h : a + m ≤ w.length) : (seg w a m).length = m := by unfold seg; rw [List.length_drop, List.length_take]; omega
theorem seg_all {w : List UInt8} (h : w.all isL = true) (a m : Nat) : (seg w a m).all isL = true := by
  rw [List.all_eq_true] at *
  intro u hu
  exact h u (List.mem_of_mem_take (List.mem_of_mem_drop hu))
theorem seg_seg {w : List UInt8} {i n a m : Nat} (h : a + m ≤ n) : seg (seg w i n) a m = seg w (i + a) m := by
  unfold seg
  rw [List.take_drop, List.take_take, List.drop_drop, Nat.min_eq_left (by omega), Nat.add_assoc]
theorem seg_zero (w : List UInt8) (m : Nat) : seg w 0 m = w.take m := by simp [seg]
theorem seg_int {w : List UInt8} {a m : Nat} : (w.take ((a : Int) + m).toNat).drop a = seg w a m := by unfold seg; rw [show ((a : Int) + m).toNat = a + m by omega]
/-- Do the first j parts of a length have the counts of the first one? -/
def alikeTo (l : List UInt8) (m j : Nat) : Bool := (List.range j).all fun i => counts (seg l (i * m) m) == counts (seg l 0 m)
theorem alikeTo_succ (l : List UInt8) (m j : Nat) : alikeTo l m (j + 1) = (alikeTo l m j && (counts (seg l (j * m) m) == counts (seg l 0 m))) := by simp [alikeTo, List.range_succ]
theorem alikeTo_one (l : List UInt8) (m : Nat) : alikeTo l m 1 = true := by simp [alikeTo]
theorem alikeTo_no {l : List UInt8} {m j k : Nat} (hj : j < k) (h : (counts (seg l (j * m) m) == counts (seg l 0 m)) = false) : alikeTo l m k = false := by
  unfold alikeTo
  rw [List.all_eq_false]
  exact ⟨j, List.mem_range.2 hj, by rw [h]; simp⟩
def abel (w : List UInt8) (i m k : Nat) : Bool := alikeTo (seg w i (k * m)) m k
theorem isAbelian_does (l : List UInt8) (m k : Nat) (mi : Int) (hmi : mi = m) (M : Mem) (R : Value → Mem → Prop) (hl : l.length = k * m) (hl' : l.length ≤ 60) (hm : 1 ≤ m) (hk : 1 ≤ k) (hw : l.all isL = true)
    (h : R (.bool (alikeTo l m k)) M) : Does Try.prog 112 [str l, .int .i64 mi] M R := by
  subst hmi
  refine does_fn tab_ok Try.func112 rfl (by kernel_rfl) (by kernel_rfl) Try.ntmps112 Try.results112 rfl ?_
  have hml : m ≤ l.length := by rw [hl]; exact Nat.le_mul_of_pos_left _ hk
  simp (disch := omega)
  refine loop_to tab_ok [4, 5, 7, 8, 9, 10, 11, 12, 13, 14, 15, 16, 17, 18, 19, 20, 21, 22, 23, 24] (fun x : Nat × Nat => [(5, .int .i64 x.2)]) (fun x M' => M' = M ∧ x.1 ≤ k ∧ x.2 = x.1 * m ∧ alikeTo l m x.1 = true) (fun x => k - x.1) (1, m) (by kernel_rfl) (by simp (disch := omega)) ⟨rfl, hk, by simp, alikeTo_one l m⟩ ?_
  rintro ⟨j, t⟩ M' g ⟨rfl, hj, ht, ha⟩
  simp only at hj ht ha
  by_cases hlt : j < k
  · have h1 : t + m ≤ l.length := by rw [ht, hl, ← Nat.succ_mul]; exact Nat.mul_le_mul_right _ hlt
    have h2 : (t : Int) < l.length := by omega
    have hseg := seg_int (w := l) (a := t) (m := m)
    have hs0 : List.take m l = seg l 0 m := (seg_zero l m).symm
    have n1 := seg_len h1
    have n2 := seg_len (w := l) (a := 0) (m := m) (by omega)
    simp (disch := omega) [h2]
    refine draw_to tab_ok (by kernel_rfl) (by kernel_rfl) (by rfl) ?_
    simp (disch := omega) [hseg, hs0]
    refine vQCall_at (a := []) (c := []) (impl_areAlike_does _ _ _ _ (by omega) (by omega) (seg_all hw _ _) (seg_all hw _ _) ⟨rfl, rfl⟩) ?_
    have hsym : (counts (seg l 0 m) == counts (seg l t m)) = (counts (seg l t m) == counts (seg l 0 m)) := Bool.eq_iff_iff.2 ⟨fun e => by rw [beq_iff_eq] at *; exact e.symm, fun e => by rw [beq_iff_eq] at *; exact e.symm⟩
    cases hc : (counts (seg l t m) == counts (seg l 0 m))
    · rw [hc] at hsym
      rw [alikeTo_no hlt (by rw [← ht]; exact hc)] at h
      simp (disch := omega) [hsym]
      exact ret_of h
    · rw [hc] at hsym
      simp (disch := omega) [hsym]
      refine Rnd.mk' (j + 1, t + m) (by simp only; omega) (by (repeat (first | exact km | refine kp rfl ?_ | refine km' rfl ?_))) (by simp (disch := omega)) ⟨rfl, by simp only; omega, by simp only; rw [ht, Nat.succ_mul], ?_⟩
      simp only
      rw [alikeTo_succ, ha, ← ht, hc]; rfl
  · have hj' : j = k := by omega
    subst hj'
    have h2 : ¬ (t : Int) < l.length := by rw [hl, ht]; omega
    rw [ha] at h
    simp (disch := omega) [h2]
    exact ret_of h
end Go.Proofs.Ytdelkgjgcdbipaa

/- Contracts: abelian powers of words. -/
import Derived.Test.YtdelkgjgcdbipaaC10
namespace Go.Proofs.Ytdelkgjgcdbipaa
open Go
set_option linter.unusedSimpArgs false
set_option linter.unusedVariables false

theorem empty_of {rs : List Value} {rows : List (List Int)} (h : rs.length = rows.length) : ((rs.length : Int) == 0) = rows.isEmpty := by
  rw [h]
  cases rows with
  | nil => rfl
  | cons a l => rw [beq_eq_false_iff_ne.2 (by simp only [List.length_cons]; omega)]; rfl
def powC (w : List UInt8) (k : Int) : Int := if isWord w then (if 2 ≤ k ∧ k ≤ 60 then 0 else 2) else 1
def powR (w : List UInt8) (k : Int) : List (List Int) := if isWord w then (if 2 ≤ k ∧ k ≤ 60 then rowsTo w k.toNat w.length else []) else []
theorem powR_len (w : List UInt8) (k : Int) : (powR w k).length ≤ 3600 ∧ sizes (powR w k) ≤ 7200 := by
  unfold powR
  split
  · rename_i hw
    have h60 := isWord_len hw
    split
    · have h := rowsTo_len w k.toNat w.length
      have h2 : w.length * w.length ≤ 60 * 60 := Nat.mul_le_mul h60 h60
      omega
    · simp [sizes]
  · simp [sizes]
theorem powR_row {w : List UInt8} {k : Int} : ∀ r ∈ powR w k, r.length = 2 := by
  unfold powR
  split
  · split
    · intro r hr
      obtain ⟨i, _, hr⟩ := List.mem_flatMap.1 hr
      obtain ⟨m, _, rfl⟩ := List.mem_map.1 hr
      rfl
    · simp
  · simp
theorem l07Code_does (w : List UInt8) (k : Int) (M : Mem) (R : Value → Mem → Prop) (hl : w.length ≤ 1099511627776) (h : R (.int .i64 (powC w k)) M) : Does Try.prog 81 [str w, .int .i64 k] M R := by
  refine does_fn tab_ok Try.func81 rfl (by kernel_rfl) (by kernel_rfl) Try.ntmps81 Try.results81 rfl ?_
  simp (disch := omega)
  refine l01Is_does w _ _ hl ?_
  unfold powC at h
  cases hw : isWord w
  · rw [hw] at h
    simp (disch := omega)
    exact ret_of h
  · rw [hw] at h
    simp (disch := omega)
    refine l01In_does k 2 60 _ _ ?_
    by_cases hk : 2 ≤ k ∧ k ≤ 60
    · rw [if_pos rfl, if_pos hk] at h
      rw [decide_eq_true hk]
      simp (disch := omega)
      exact ret_of h
    · rw [if_pos rfl, if_neg hk] at h
      rw [decide_eq_false hk]
      simp (disch := omega)
      exact ret_of h
theorem spec_AbelianPowers (w : List UInt8) (k : Int) (M : Mem) (R : Value → Mem → Prop) (hl : w.length ≤ 1099511627776) (h : LstSS (powC w k) (powR w k) M R) : Does Try.prog 40 [str w, .int .i64 k] M R := by
  refine does_fn tab_ok Try.func40 rfl (by kernel_rfl) (by kernel_rfl) Try.ntmps40 Try.results40 rfl ?_
  simp (disch := omega)
  refine l07Code_does w k _ _ hl ?_
  unfold powC powR at h
  unfold powC
  cases hw : isWord w
  · rw [hw] at h
    simp (disch := omega)
    exact ret_of (h _ _ _ _ .nil (Own.nil M))
  · rw [hw] at h
    by_cases hk : 2 ≤ k ∧ k ≤ 60
    · rw [if_pos rfl, if_pos rfl, if_pos hk, if_pos hk] at h
      rw [if_pos rfl, if_pos hk]
      obtain ⟨k, rfl⟩ : ∃ j : Nat, k = j := ⟨k.toNat, by omega⟩
      simp (disch := omega)
      refine l07Powers_does w k _ _ (isWord_len hw) (by omega) (by omega) (isWord_all hw) ?_
      intro v rs N M' hr ho
      simp (disch := omega)
      exact ret_of (h v rs N M' hr ho)
    · rw [if_pos rfl, if_pos rfl, if_neg hk, if_neg hk] at h
      rw [if_pos rfl, if_neg hk]
      simp (disch := omega)
      exact ret_of (h _ _ _ _ .nil (Own.nil M))
theorem spec_AbelianSquares (w : List UInt8) (M : Mem) (R : Value → Mem → Prop) (hl : w.length ≤ 1099511627776) (h : LstSS (powC w 2) (powR w 2) M R) : Does Try.prog 31 [str w] M R := by
  refine does_fn tab_ok Try.func31 rfl (by kernel_rfl) (by kernel_rfl) Try.ntmps31 Try.results31 rfl ?_
  simp (disch := omega)
  refine l01Is_does w _ _ hl ?_
  unfold powC powR at h
  cases hw : isWord w
  · rw [hw] at h
    simp (disch := omega)
    exact ret_of (h _ _ _ _ .nil (Own.nil M))
  · rw [hw] at h
    simp (disch := omega)
    refine l07Powers_does w 2 _ _ (isWord_len hw) (by omega) (by omega) (isWord_all hw) ?_
    intro v rs N M' hr ho
    simp (disch := omega)
    exact ret_of (h v rs N M' hr ho)
theorem impl_AbelianPowers (w : List UInt8) (k : Int) (M : Mem) (R : Value → Mem → Prop) (hl : w.length ≤ 1099511627776) (h : LstSS (powC w k) (powR w k) M R) : Does Try.prog 41 [str w, .int .i64 k] M R := by
  refine does_fn tab_ok Try.func41 rfl (by kernel_rfl) (by kernel_rfl) Try.ntmps41 Try.results41 rfl ?_
  simp (disch := omega)
  intro b1 hb1
  simp (disch := omega)
  intro b2 hb2
  have h2 := hb2
  rw [put_none] at h2
  simp (disch := omega)
  have hs2 : Sub M ((M.put b1 (.cells true [.int .i64 k] 1)).put b2 (.cells true [str w] 1)) := ((Sub.refl _).put hb1 _).putN hb2 _
  have hst : Stab (fun M' : Mem => M'.get? b1 0 = some (.int .i64 k)) := by
    intro N b B hG hb
    have : b1 ≠ b := by rintro rfl; unfold Mem.get? at hG; rw [hb] at hG; cases hG
    unfold Mem.get? at *
    rw [put_ne _ _ this]
    exact hG
  refine wordCode_does _ _ [w] (decide (2 ≤ k ∧ k ≤ 60)) (fun M' : Mem => M'.get? b1 0 = some (.int .i64 k)) _ _ (Rd.new rfl (Nat.le_refl 1)) (fine1 hl) (by simp) (by simp (disch := omega) [Ne.symm h2.1, h2.1]) hst ?_ ?_
  · intro N R' hG hR'
    simp (disch := omega)
    refine does_fn tab_ok Try.func83 rfl (by kernel_rfl) (by kernel_rfl) Try.ntmps83 Try.results83 rfl ?_
    simp (disch := omega) [hG]
    refine within_does k 2 60 _ _ ?_
    simp (disch := omega)
    exact ret_of (by simpa using hR')
  · rw [codeOf1]
    unfold powC powR at h
    cases hw : isWord w
    · rw [hw] at h
      simp (disch := omega)
      exact ret_sub hs2 (h _ _ _ _ .nil (Own.nil M))
    · rw [hw] at h
      by_cases hk : 2 ≤ k ∧ k ≤ 60
      · rw [if_pos rfl, if_pos rfl, if_pos hk, if_pos hk] at h
        rw [decide_eq_true hk]
        obtain ⟨k, rfl⟩ : ∃ j : Nat, k = j := ⟨k.toNat, by omega⟩
        simp (disch := omega) [Ne.symm h2.1, h2.1]
        refine abelianPowers_does w k _ _ (isWord_len hw) (by omega) (by omega) (isWord_all hw) ?_
        intro v rs N M' hr ho
        simp (disch := omega)
        obtain ⟨N2, M2, q1, q2, q3⟩ := base_SS hr ho hs2
        exact ret_sub q3 (h v rs N2 M2 q1 q2)
      · rw [if_pos rfl, if_pos rfl, if_neg hk, if_neg hk] at h
        rw [decide_eq_false hk]
        simp (disch := omega)
        exact ret_sub hs2 (h _ _ _ _ .nil (Own.nil M))
theorem impl_AbelianSquares (w : List UInt8) (M : Mem) (R : Value → Mem → Prop) (hl : w.length ≤ 1099511627776) (h : LstSS (powC w 2) (powR w 2) M R) : Does Try.prog 32 [str w] M R := by
  refine does_fn tab_ok Try.func32 rfl (by kernel_rfl) (by kernel_rfl) Try.ntmps32 Try.results32 rfl ?_
  simp (disch := omega)
  refine impl_AbelianPowers w 2 _ _ hl ?_
  intro v rs N M' hr ho
  simp (disch := omega)
  exact ret_of (h v rs N M' hr ho)
end Go.Proofs.Ytdelkgjgcdbipaa

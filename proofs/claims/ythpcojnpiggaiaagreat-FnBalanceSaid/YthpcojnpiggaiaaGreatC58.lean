/- Contracts: factors at places, of the program. -/
import Derived.Test.YthpcojnpiggaiaaGreatC12
namespace Go.Proofs.YthpcojnpiggaiaaGreat
open Go
set_option linter.unusedSimpArgs false
set_option linter.unusedVariables false

def facOk (w : List UInt8) (i m : Int) : Bool := decide (0 ≤ i ∧ i ≤ w.length) && decide (0 ≤ m ∧ m ≤ (w.length : Int) - i)
def facC (w : List UInt8) (i m : Int) : Int := if isWord w then (if facOk w i m then 0 else 2) else 1
def facT (w : List UInt8) (i m : Int) : List UInt8 := if isWord w then (if facOk w i m then seg w i.toNat m.toNat else []) else []
theorem stab_get (b : Nat) (v : Value) : Stab (fun M' : Mem => M'.get? b 0 = some v) := by
  intro N b' B hG hb
  have : b ≠ b' := by rintro rfl; unfold Mem.get? at hG; rw [hb] at hG; cases hG
  unfold Mem.get? at *
  rw [put_ne _ _ this]
  exact hG
theorem stab_and {F G : Mem → Prop} (hF : Stab F) (hG : Stab G) : Stab (fun M' => F M' ∧ G M') := fun N b B h hb => ⟨hF N b B h.1 hb, hG N b B h.2 hb⟩
theorem impl_FactorAt (w : List UInt8) (i m : Int) (M : Mem) (R : Value → Mem → Prop) (hl : w.length ≤ 1099511627776) (hi : -9223372036854775808 ≤ i ∧ i ≤ 9223372036854775807) (hm : -9223372036854775808 ≤ m ∧ m ≤ 9223372036854775807) (h : ∀ M', Sub M M' → R (tup2 (str (facT w i m)) (facC w i m)) M') : Does Tryz.prog 21 [str w, .int .i64 i, .int .i64 m] M R := by
  unfold tup2 facT facC at h
  refine does_fn tab_ok Tryz.func21 rfl (by kernel_rfl) (by kernel_rfl) Tryz.ntmps21 Tryz.results21 rfl ?_
  simp (disch := omega)
  intro b3 hb3
  simp (disch := omega)
  intro b4 hb4
  simp (disch := omega)
  intro b5 hb5
  simp (disch := omega)
  have s3 := (Sub.refl M).put hb3 (.cells true [str w] 1)
  have s4 := (Sub.refl _).put hb4 (.cells true [.int .i64 i] 1)
  have s5 := (Sub.refl _).put hb5 (.cells true [.int .i64 m] 1)
  have k3 := s5 _ _ (s4 _ _ (put_same M b3 (.cells true [str w] 1)))
  have k4 := s5 _ _ (put_same (M.put b3 (.cells true [str w] 1)) b4 (.cells true [.int .i64 i] 1))
  have k5 := put_same ((M.put b3 (.cells true [str w] 1)).put b4 (.cells true [.int .i64 i] 1)) b5 (.cells true [.int .i64 m] 1)
  have hs := (s3.trans s4).trans s5
  generalize ((M.put b3 (.cells true [str w] 1)).put b4 (.cells true [.int .i64 i] 1)).put b5 (.cells true [.int .i64 m] 1) = N at *
  try simp (disch := omega) [get_of k3, get_of k4, get_of k5]
  intro b6 hb6
  simp (disch := omega)
  have s6 := (Sub.refl N).put hb6 (.cells true [str w] 1)
  have g3 := get_of (s6 _ _ k3) 0
  have g4 := get_of (s6 _ _ k4) 0
  have g5 := get_of (s6 _ _ k5) 0
  refine wordCode_does _ _ [w] (facOk w i m) (fun M' : Mem => (M'.get? b3 0 = some (str w) ∧ M'.get? b4 0 = some (.int .i64 i)) ∧ M'.get? b5 0 = some (.int .i64 m)) _ _ (Rd.new rfl (Nat.le_refl 1)) (fine1 hl) (by simp) ⟨⟨g3, g4⟩, g5⟩ (stab_and (stab_and (stab_get _ _) (stab_get _ _)) (stab_get _ _)) ?_ ?_
  · intro K R' hG hR'
    obtain ⟨⟨h3, h4⟩, h5⟩ := hG
    simp (disch := omega)
    refine does_fn tab_ok Tryz.func79 rfl (by kernel_rfl) (by kernel_rfl) Tryz.ntmps79 Tryz.results79 rfl ?_
    simp (disch := omega)
    refine draw_to tab_ok (by kernel_rfl) (by kernel_rfl) (by rfl) ?_
    simp (disch := omega) [h3, h4, h5]
    refine vQCall_at (a := []) (c := []) (size_does w _ _ hl ⟨rfl, rfl⟩) ?_
    simp (disch := omega) [h3, h4, h5]
    refine vQCall_at (a := []) (c := []) (within_does _ _ _ _ _ ⟨rfl, rfl⟩) ?_
    by_cases h1 : 0 ≤ i ∧ i ≤ (w.length : Int)
    · rw [decide_eq_true h1]
      simp (disch := omega) [h3, h4, h5]
      refine vQCall_at (a := []) (c := []) (size_does w _ _ hl ⟨rfl, rfl⟩) ?_
      simp (disch := omega) [h3, h4, h5]
      refine vQCall_at (a := []) (c := []) (within_does _ _ _ _ _ ⟨rfl, rfl⟩) ?_
      simp (disch := omega)
      refine ret_of ?_
      unfold facOk at hR'
      rw [decide_eq_true h1, Bool.true_and] at hR'
      simpa using hR'
    · rw [decide_eq_false h1]
      simp (disch := omega)
      refine ret_of ?_
      unfold facOk at hR'
      rw [decide_eq_false h1, Bool.false_and] at hR'
      simpa using hR'
  · rw [codeOf1]
    have hs6 := hs.trans s6
    cases hw : isWord w
    · rw [hw] at h
      simp (disch := omega)
      exact ret_of (h _ hs6)
    · rw [hw] at h
      cases hf : facOk w i m
      · rw [hf] at h
        simp (disch := omega)
        exact ret_of (h _ hs6)
      · rw [hf] at h
        have h60 := isWord_len hw
        unfold facOk at hf
        rw [Bool.and_eq_true, decide_eq_true_eq, decide_eq_true_eq] at hf
        obtain ⟨i, rfl⟩ : ∃ j : Nat, i = j := ⟨i.toNat, by omega⟩
        obtain ⟨m, rfl⟩ : ∃ j : Nat, m = j := ⟨m.toNat, by omega⟩
        have hsg := seg_int (w := w) (a := i) (m := m)
        rw [if_pos rfl, if_pos rfl, if_pos rfl, if_pos rfl, Int.toNat_natCast, Int.toNat_natCast] at h
        have l3 := s6 _ _ k3
        have l4 := s6 _ _ k4
        have l5 := s6 _ _ k5
        generalize N.put b6 (.cells true [str w] 1) = N6 at *
        simp (disch := omega) [get_of l3, get_of l4, get_of l5, g3, g4, g5]
        rw [hsg]
        exact ret_of (h _ hs6)
end Go.Proofs.YthpcojnpiggaiaaGreat

/- Contracts: common ends of the reference, turned words, powers, words compared, words of letters. -/
import Derived.Test.YtbefijbmgmbphaaGreatC63
namespace Go.Proofs.YtbefijbmgmbphaaGreat
open Go Go.RowKit
set_option linter.unusedSimpArgs false
set_option linter.unusedVariables false

def turC (w : List UInt8) (k : Int) : Int := if isWord w then (if 0 ≤ k ∧ k ≤ w.length then 0 else 2) else 1
def turT (w : List UInt8) (k : Int) : List UInt8 := if isWord w then (if 0 ≤ k ∧ k ≤ w.length then w.drop k.toNat ++ w.take k.toNat else []) else []
def cmpT (w u : List UInt8) : Int := if isWord w && isWord u then Lib.compareBytes w u else 0
def wolC (p : List Int) : Int := if decide (p.length ≤ 60) && p.all inL then 0 else 2
def wolT (p : List Int) : List UInt8 := if decide (p.length ≤ 60) && p.all inL then p.map (fun z => ltr z.toNat) else []
theorem stab_get2 (b : Nat) (v : Value) : Stab (fun M' : Mem => M'.get? b 0 = some v) := by
  intro N b' B hG hb
  have : b ≠ b' := by rintro rfl; unfold Mem.get? at hG; rw [hb] at hG; cases hG
  unfold Mem.get? at *
  rw [put_ne _ _ this]
  exact hG
theorem stab_and2 {F G : Mem → Prop} (hF : Stab F) (hG : Stab G) : Stab (fun M' => F M' ∧ G M') := fun N b B h hb => ⟨hF N b B h.1 hb, hG N b B h.2 hb⟩
theorem repF_succ (w : List UInt8) (i : Nat) : repF w (i + 1) = repF w i ++ w := by
  unfold repF
  rw [List.replicate_succ', List.flatten_append, List.flatten_singleton]
theorem repF_nilw (i : Nat) : repF [] i = [] := by
  induction i with
  | zero => rfl
  | succ i ih => rw [repF_succ, ih]; rfl
theorem repF_length (w : List UInt8) (i : Nat) : (repF w i).length = w.length * i := by
  induction i with
  | zero => rfl
  | succ i ih => rw [repF_succ, List.length_append, ih, Nat.mul_succ]
theorem spec_CommonEnd (w u : List UInt8) (M : Mem) (R : Value → Mem → Prop) (hw : w.length ≤ 1099511627776) (hu : u.length ≤ 1099511627776) (h : ∀ M', Sub M M' → R (tup2 (str (cendT w u)) (twoC w u)) M') : Does Tryz.prog 30 [str w, str u] M R := by
  unfold tup2 cendT twoC at h
  refine does_fn tab_ok Tryz.func30 rfl (by kernel_rfl) (by kernel_rfl) Tryz.ntmps30 Tryz.results30 rfl ?_
  simp (disch := omega)
  refine l01Is_does w _ _ hw ?_
  cases h1 : isWord w
  · rw [h1] at h
    simp (disch := omega)
    exact ret_of (h _ (Sub.refl _))
  · rw [h1, Bool.true_and] at h
    simp (disch := omega)
    refine l01Is_does u _ _ hu ?_
    cases h2 : isWord u
    · rw [h2] at h
      simp (disch := omega)
      exact ret_of (h _ (Sub.refl _))
    · rw [h2, if_pos rfl, if_pos rfl] at h
      have w60 := isWord_len h1
      have u60 := isWord_len h2
      simp (disch := omega)
      refine l01Reversed_does w _ _ (by omega) ?_
      intro M1 s1
      simp (disch := omega)
      refine l01Reversed_does u _ _ (by omega) ?_
      intro M2 s2
      simp (disch := omega)
      refine l01Common_does w.reverse u.reverse _ _ (by rw [List.length_reverse]; omega) (by rw [List.length_reverse]; omega) ?_
      unfold cendN at h
      have hle := (cmn_le w.reverse u.reverse).1
      rw [List.length_reverse] at hle
      generalize cmn w.reverse u.reverse = n at *
      obtain ⟨d, hd⟩ : ∃ d, d = w.length - n := ⟨_, rfl⟩
      have hd' : (w.length : Int) - n = d := by omega
      rw [← hd] at h
      simp (disch := omega) [hd']
      exact ret_of (h _ (s1.trans s2))
theorem l01Turned_does (w : List UInt8) (k : Nat) (M : Mem) (R : Value → Mem → Prop) (hw : w.length ≤ 60) (hk : k ≤ w.length) (h : R (str (w.drop k ++ w.take k)) M) : Does Tryz.prog 58 [str w, .int .i64 k] M R := by
  refine does_fn tab_ok Tryz.func58 rfl (by kernel_rfl) (by kernel_rfl) Tryz.ntmps58 Tryz.results58 rfl ?_
  refine draw_to tab_ok (by kernel_rfl) (by kernel_rfl) (by rfl) ?_
  have hll : (w.drop k).length + (w.take k).length ≤ 60 := by rw [List.length_drop, List.length_take]; omega
  simp (disch := omega)
  exact ret_of h
theorem spec_TurnWord (w : List UInt8) (k : Int) (M : Mem) (R : Value → Mem → Prop) (hw : w.length ≤ 1099511627776) (h : R (tup2 (str (turT w k)) (turC w k)) M) : Does Tryz.prog 19 [str w, .int .i64 k] M R := by
  unfold tup2 turT turC at h
  refine does_fn tab_ok Tryz.func19 rfl (by kernel_rfl) (by kernel_rfl) Tryz.ntmps19 Tryz.results19 rfl ?_
  simp (disch := omega)
  refine l01Is_does w _ _ hw ?_
  cases h1 : isWord w
  · rw [h1] at h
    simp (disch := omega)
    exact ret_of h
  · rw [h1, if_pos rfl, if_pos rfl] at h
    simp (disch := omega)
    refine l01In_does k 0 w.length _ _ ?_
    by_cases h2 : 0 ≤ k ∧ k ≤ (w.length : Int)
    · rw [if_pos h2, if_pos h2] at h
      rw [decide_eq_true h2]
      obtain ⟨k, rfl⟩ : ∃ j : Nat, k = j := ⟨k.toNat, by omega⟩
      rw [Int.toNat_natCast] at h
      simp (disch := omega)
      refine l01Turned_does w k _ _ (isWord_len h1) (by omega) ?_
      simp (disch := omega)
      exact ret_of h
    · rw [if_neg h2, if_neg h2] at h
      rw [decide_eq_false h2]
      simp (disch := omega)
      exact ret_of h
theorem impl_TurnWord (w : List UInt8) (k : Int) (M : Mem) (R : Value → Mem → Prop) (hw : w.length ≤ 1099511627776) (h : ∀ M', Sub M M' → R (tup2 (str (turT w k)) (turC w k)) M') : Does Tryz.prog 18 [str w, .int .i64 k] M R := by
  unfold tup2 turT turC at h
  refine does_fn tab_ok Tryz.func18 rfl (by kernel_rfl) (by kernel_rfl) Tryz.ntmps18 Tryz.results18 rfl ?_
  simp (disch := omega)
  intro b2 hb2
  simp (disch := omega)
  intro b3 hb3
  simp (disch := omega)
  have s2 := (Sub.refl M).put hb2 (.cells true [str w] 1)
  have s3 := (Sub.refl _).put hb3 (.cells true [.int .i64 k] 1)
  have k2 := s3 _ _ (put_same M b2 (.cells true [str w] 1))
  have k3 := put_same (M.put b2 (.cells true [str w] 1)) b3 (.cells true [.int .i64 k] 1)
  have hs := s2.trans s3
  generalize (M.put b2 (.cells true [str w] 1)).put b3 (.cells true [.int .i64 k] 1) = N at *
  try simp (disch := omega) [get_of k2, get_of k3]
  intro b6 hb6
  simp (disch := omega)
  have s6 := (Sub.refl N).put hb6 (.cells true [str w] 1)
  have g2 := get_of (s6 _ _ k2) 0
  have g3 := get_of (s6 _ _ k3) 0
  refine wordCode_does _ _ [w] (decide (0 ≤ k ∧ k ≤ (w.length : Int))) (fun M' : Mem => M'.get? b2 0 = some (str w) ∧ M'.get? b3 0 = some (.int .i64 k)) _ _ (Rd.new rfl (Nat.le_refl 1)) (fine1 hw) (by simp) ⟨g2, g3⟩ (stab_and2 (stab_get2 _ _) (stab_get2 _ _)) ?_ ?_
  · intro K R' hG hR'
    obtain ⟨h2, h3⟩ := hG
    simp (disch := omega)
    refine does_fn tab_ok Tryz.func54 rfl (by kernel_rfl) (by kernel_rfl) Tryz.ntmps54 Tryz.results54 rfl ?_
    simp (disch := omega)
    refine draw_to tab_ok (by kernel_rfl) (by kernel_rfl) (by rfl) ?_
    simp (disch := omega) [h2, h3]
    refine vQCall_at (a := []) (c := []) (size_does w _ _ hw ⟨rfl, rfl⟩) ?_
    simp (disch := omega) [h2, h3]
    refine vQCall_at (a := []) (c := []) (within_does _ _ _ _ _ ⟨rfl, rfl⟩) ?_
    simp (disch := omega)
    exact ret_of (by simpa using hR')
  · rw [codeOf1]
    have hs6 := hs.trans s6
    cases h1 : isWord w
    · rw [h1] at h
      simp (disch := omega)
      exact ret_of (h _ hs6)
    · rw [h1, if_pos rfl, if_pos rfl] at h
      by_cases hk : 0 ≤ k ∧ k ≤ (w.length : Int)
      · rw [if_pos hk, if_pos hk] at h
        rw [decide_eq_true hk]
        have h60 := isWord_len h1
        obtain ⟨k, rfl⟩ : ∃ j : Nat, k = j := ⟨k.toNat, by omega⟩
        rw [Int.toNat_natCast] at h
        have l2 := s6 _ _ k2
        have l3 := s6 _ _ k3
        have hll : (w.drop k).length + (w.take k).length ≤ 60 := by rw [List.length_drop, List.length_take]; omega
        generalize N.put b6 (.cells true [str w] 1) = N6 at *
        simp (disch := omega)
        refine draw_to tab_ok (by kernel_rfl) (by kernel_rfl) (by rfl) ?_
        simp (disch := omega) [get_of l2, get_of l3, g2, g3]
        exact ret_of (h _ hs6)
      · rw [if_neg hk, if_neg hk] at h
        rw [decide_eq_false hk]
        simp (disch := omega)
        exact ret_of (h _ hs6)
theorem spec_PowerOf (w : List UInt8) (k : Int) (M : Mem) (R : Value → Mem → Prop) (hw : w.length ≤ 1099511627776) (h : R (tup2 (str (pwrT w k)) (pwrC w k)) M) : Does Tryz.prog 22 [str w, .int .i64 k] M R := by
  unfold tup2 pwrT pwrC at h
  refine does_fn tab_ok Tryz.func22 rfl (by kernel_rfl) (by kernel_rfl) Tryz.ntmps22 Tryz.results22 rfl ?_
  simp (disch := omega)
  refine l01Is_does w _ _ hw ?_
  cases h1 : isWord w
  · rw [h1] at h
    simp (disch := omega)
    exact ret_of h
  · rw [h1, if_pos rfl, if_pos rfl] at h
    simp (disch := omega)
    refine l01In_does k 0 1000 _ _ ?_
    by_cases h2 : 0 ≤ k ∧ k ≤ (1000 : Int)
    · rw [if_pos h2, if_pos h2] at h
      rw [decide_eq_true h2]
      have h60 := isWord_len h1
      obtain ⟨k, rfl⟩ : ∃ j : Nat, k = j := ⟨k.toNat, by omega⟩
      rw [Int.toNat_natCast] at h
      have hmul : w.length * k ≤ 60 * 1000 := Nat.mul_le_mul h60 (by omega)
      obtain ⟨P, hP⟩ : ∃ P, P = w.length * k := ⟨_, rfl⟩
      have hPi : (w.length : Int) * (k : Int) = P := by rw [hP]; push_cast; rfl
      rw [hPi] at h
      by_cases h3 : (P : Int) ≤ 60
      · rw [if_pos h3, if_pos h3] at h
        have h3' : ¬ (60 : Int) < P := by omega
        simp (disch := omega) [hPi, h3']
        refine loop_to tab_ok [1, 6, 21, 22, 23, 24, 25, 26, 27, 28, 29, 30, 31] (fun i : Nat => [(1, .int .i64 ((k : Int) - i)), (6, str (repF w i))]) (fun i M' => M = M' ∧ i ≤ k ∧ (w = [] → i = 0)) (fun i => k - i) 0 (by kernel_rfl) (by simp (disch := omega) [repF]) ⟨rfl, by omega, fun _ => rfl⟩ ?_
        rintro i M' g ⟨rfl, hi, hw0⟩
        by_cases hlt : i < k
        · have hg0 : (0 : Int) < (k : Int) - i := by omega
          by_cases hwn : w = []
          · have := hw0 hwn
            subst this
            subst hwn
            rw [repF_nilw] at h ⊢
            simp (disch := omega) [hg0]
            exact ret_of h
          · have hb : (w == []) = false := beq_eq_false_iff_ne.2 hwn
            have hrl := repF_length w i
            have hle : w.length * i ≤ w.length * k := Nat.mul_le_mul_left _ (by omega)
            have hrs := repF_succ w i
            generalize repF w i = x at *
            simp (disch := omega) [hg0, hb, hwn]
            refine Rnd.mk' (i + 1) (by omega) (by (repeat (first | exact km | refine kp rfl ?_ | refine km' rfl ?_))) (by simp (disch := omega) [hrs]; omega) (by first | omega | exact hlt | exact ⟨rfl, by omega, fun q => absurd q hwn⟩ | exact ⟨rfl, hlt⟩)
        · have hi' : i = k := by omega
          subst hi'
          have hg0 : ¬ (0 : Int) < (i : Int) - i := by omega
          simp (disch := omega) [hg0]
          exact ret_of h
      · rw [if_neg h3, if_neg h3] at h
        have h3' : (60 : Int) < P := by omega
        simp (disch := omega) [hPi, h3']
        exact ret_of h
    · rw [if_neg h2, if_neg h2] at h
      rw [decide_eq_false h2]
      simp (disch := omega)
      exact ret_of h
end Go.Proofs.YtbefijbmgmbphaaGreat

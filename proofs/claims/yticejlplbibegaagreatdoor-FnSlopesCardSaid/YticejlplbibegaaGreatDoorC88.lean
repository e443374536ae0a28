/- Contracts: slopes of words and cuts of words, of both; the laws. -/
import Derived.Test.YticejlplbibegaaGreatDoorC87
namespace Go.Proofs.YticejlplbibegaaGreatDoor
open Go Go.RowKit
set_option linter.unusedSimpArgs false
set_option linter.unusedVariables false

def sP (l : List UInt8) : Nat := if isAB l = true then (if isSlope l = true then nA l else 0) else 0
def sQ (l : List UInt8) : Nat := if isAB l = true then (if isSlope l = true then nB l else 0) else 0
def sC (l : List UInt8) : Int := if isAB l = true then (if isSlope l = true then 0 else 5) else 1
theorem isAB_all {l : List UInt8} (h : isAB l = true) : l.all isL = true := isWord_all (Bool.and_eq_true_iff.1 h).1
theorem isAB_sub {l m : List UInt8} (h : isAB l = true) (hs : m.Sublist l) : isAB m = true := by
  unfold isAB isWord fewB at h ⊢
  simp only [Bool.and_eq_true, decide_eq_true_eq, List.all_eq_true] at h ⊢
  have := hs.length_le
  exact ⟨⟨by omega, fun x hx => h.1.2 x (hs.subset hx)⟩, fun x hx => h.2 x (hs.subset hx)⟩
theorem impl_SlopeOfWord (l : List UInt8) (M : Mem) (R : Value → Mem → Prop) (hl : l.length ≤ 1099511627776) (h : ∀ M', Sub M M' → R (.tuple #[.int .i64 (sP l), .int .i64 (sQ l), .int .i64 (sC l)]) M') : Does Tryz.prog 30 [str l] M R := by
  unfold sP sQ sC at h
  refine does_fn tab_ok Tryz.func30 rfl (by kernel_rfl) (by kernel_rfl) Tryz.ntmps30 Tryz.results30 rfl ?_
  simp (disch := omega)
  refine isTwo_does l _ _ hl ?_
  cases hw : isAB l
  · rw [hw] at h
    simp only [Bool.false_eq_true, if_false] at h
    simp (disch := omega)
    exact ret_of (h _ (Sub.refl _))
  · rw [hw] at h
    simp only [if_true] at h
    simp (disch := omega)
    refine slopeOf_does l _ _ (isAB_len hw) (isAB_all hw) ?_
    intro M1 s1
    have h2 := h M1 s1
    cases hs : isSlope l
    · rw [hs] at h2
      simp only [Bool.false_eq_true, if_false] at h2 ⊢
      simp (disch := omega)
      exact ret_of h2
    · rw [hs] at h2
      simp only [if_true] at h2 ⊢
      simp (disch := omega)
      exact ret_of h2
theorem spec_SlopeOfWord (l : List UInt8) (M : Mem) (R : Value → Mem → Prop) (hl : l.length ≤ 1099511627776) (h : R (.tuple #[.int .i64 (sP l), .int .i64 (sQ l), .int .i64 (sC l)]) M) : Does Tryz.prog 31 [str l] M R := by
  unfold sP sQ sC at h
  refine does_fn tab_ok Tryz.func31 rfl (by kernel_rfl) (by kernel_rfl) Tryz.ntmps31 Tryz.results31 rfl ?_
  simp (disch := omega)
  refine l08Is_does l _ _ hl ?_
  cases hw : isAB l
  · rw [hw] at h
    simp only [Bool.false_eq_true, if_false] at h
    simp (disch := omega)
    exact ret_of h
  · rw [hw] at h
    simp only [if_true] at h
    simp (disch := omega)
    refine l08Slope_does l _ _ (isAB_len hw) hw ?_
    cases hs : isSlope l
    · rw [hs] at h
      simp only [Bool.false_eq_true, if_false] at h ⊢
      simp (disch := omega)
      exact ret_of h
    · rw [hs] at h
      simp only [if_true] at h ⊢
      simp (disch := omega)
      exact ret_of h
/-- A cut of a word at a place. -/
def cutB (l : List UInt8) (i : Nat) : Bool := decide (1 ≤ i) && (isSlope (l.take i) && isSlope (l.drop i))
def cutI (l : List UInt8) : Option Nat := if isSlope l = true then (List.range l.length).find? (cutB l) else none
theorem cutI_some {l : List UInt8} {i : Nat} (hs : isSlope l = true) (hi : i < l.length) (hb : cutB l i = true) (hn : ∀ j < i, cutB l j = false) : cutI l = some i := by
  unfold cutI
  rw [if_pos hs]
  exact List.find?_range_eq_some.2 ⟨hb, by simpa using hi, fun j hj => by rw [hn j hj]; rfl⟩
theorem cutI_none {l : List UInt8} (hn : ∀ j < l.length, cutB l j = false) : cutI l = none := by
  unfold cutI
  split
  · exact List.find?_range_eq_none.2 fun j hj => by rw [hn j hj]; rfl
  · rfl
theorem cutI_not {l : List UInt8} (hs : isSlope l = false) : cutI l = none := by
  unfold cutI; rw [hs]; rfl
def kA (l : List UInt8) : List UInt8 := if isAB l = true then (match cutI l with | some i => l.take i | none => []) else []
def kB (l : List UInt8) : List UInt8 := if isAB l = true then (match cutI l with | some i => l.drop i | none => []) else []
def kC (l : List UInt8) : Int := if isAB l = true then (match cutI l with | some _ => 0 | none => 5) else 1
theorem impl_CutOf (l : List UInt8) (M : Mem) (R : Value → Mem → Prop) (hl : l.length ≤ 1099511627776) (h : ∀ M', Sub M M' → R (.tuple #[str (kA l), str (kB l), .int .i64 (kC l)]) M') : Does Tryz.prog 33 [str l] M R := by
  unfold kA kB kC at h
  refine does_fn tab_ok Tryz.func33 rfl (by kernel_rfl) (by kernel_rfl) Tryz.ntmps33 Tryz.results33 rfl ?_
  simp (disch := omega)
  refine isTwo_does l _ _ hl ?_
  cases hw : isAB l
  · rw [hw] at h
    simp only [Bool.false_eq_true, if_false] at h
    simp (disch := omega)
    exact ret_of (h _ (Sub.refl _))
  · rw [hw] at h
    simp only [if_true] at h
    have h60 := isAB_len hw
    simp (disch := omega)
    refine slopeOf_does l _ _ (isAB_len hw) (isAB_all hw) ?_
    intro M1 s1
    cases hs : isSlope l
    · rw [cutI_not hs] at h
      simp only at h
      have h2 := h M1 s1
      simp (disch := omega)
      exact ret_of h2
    · by_cases h2 : l.length < 2
      · rw [cutI_none (fun j hj => by
          have : j = 0 := by omega
          subst this; rfl)] at h
        have h2' : (l.length : Int) < 2 := by omega
        have h3 := h M1 s1
        simp (disch := omega) [h2']
        exact ret_of h3
      · have h2' : ¬ (l.length : Int) < 2 := by omega
        simp (disch := omega) [h2']
        refine loop_to tab_ok [2, 3, 4, 8, 9, 10, 11, 12, 13, 14, 31, 32, 33, 34, 35, 36, 37, 38, 39, 40, 41, 42, 43, 44, 45, 46, 47, 48, 49, 50, 51, 52, 53, 54, 55, 56, 57, 58, 59, 60, 61, 62] (fun i : Nat => [(8, .int .i64 i)]) (fun i M' => Sub M M' ∧ 1 ≤ i ∧ i ≤ l.length ∧ ∀ j < i, cutB l j = false) (fun i => l.length - i) 1 (by kernel_rfl) (by simp (disch := omega)) ⟨s1, by omega, by omega, fun j hj => by
          have : j = 0 := by omega
          subst this; rfl⟩ ?_
        rintro i M' g ⟨sM, h1, hi, hn⟩
        by_cases hlt : i < l.length
        · have iA := isAB_sub hw (List.take_sublist i l)
          have iB := isAB_sub hw (List.drop_sublist i l)
          simp (disch := omega)
          refine slopeOf_does (l.take i) _ _ (isAB_len iA) (isAB_all iA) ?_
          intro M2 s2
          simp (disch := omega)
          refine slopeOf_does (l.drop i) _ _ (isAB_len iB) (isAB_all iB) ?_
          intro M3 s3
          have hc : cutB l i = (isSlope (l.take i) && isSlope (l.drop i)) := by unfold cutB; rw [decide_eq_true h1, Bool.true_and]
          have sAll := (sM.trans s2).trans s3
          cases ha : isSlope (l.take i)
          · rw [ha, Bool.false_and] at hc
            simp (disch := omega)
            refine Rnd.mk' (i + 1) (by omega) (by (repeat (first | exact km | refine kp rfl ?_ | refine km' rfl ?_))) (by simp (disch := omega)) ⟨sAll, by omega, by omega, fun j hj => ?_⟩
            rcases Nat.lt_or_ge j i with h | h
            · exact hn j h
            · rw [show j = i by omega]; exact hc
          · cases hb : isSlope (l.drop i)
            · rw [ha, hb, Bool.true_and] at hc
              simp (disch := omega)
              refine Rnd.mk' (i + 1) (by omega) (by (repeat (first | exact km | refine kp rfl ?_ | refine km' rfl ?_))) (by simp (disch := omega)) ⟨sAll, by omega, by omega, fun j hj => ?_⟩
              rcases Nat.lt_or_ge j i with h | h
              · exact hn j h
              · rw [show j = i by omega]; exact hc
            · rw [ha, hb, Bool.true_and] at hc
              rw [cutI_some hs hlt hc hn] at h
              simp only at h
              have h3 := h M3 sAll
              simp (disch := omega)
              refine draw_to tab_ok (by kernel_rfl) (by kernel_rfl) (by rfl) ?_
              simp (disch := omega)
              exact ret_of h3
        · have hi' : i = l.length := by omega
          subst hi'
          rw [cutI_none hn] at h
          simp only at h
          have h3 := h M' sM
          simp (disch := omega)
          exact ret_of h3
theorem spec_CutOf (l : List UInt8) (M : Mem) (R : Value → Mem → Prop) (hl : l.length ≤ 1099511627776) (h : R (.tuple #[str (kA l), str (kB l), .int .i64 (kC l)]) M) : Does Tryz.prog 34 [str l] M R := by
  unfold kA kB kC at h
  refine does_fn tab_ok Tryz.func34 rfl (by kernel_rfl) (by kernel_rfl) Tryz.ntmps34 Tryz.results34 rfl ?_
  simp (disch := omega)
  refine l08Is_does l _ _ hl ?_
  cases hw : isAB l
  · rw [hw] at h
    simp only [Bool.false_eq_true, if_false] at h
    simp (disch := omega)
    exact ret_of h
  · rw [hw] at h
    simp only [if_true] at h
    have h60 := isAB_len hw
    simp (disch := omega)
    refine l08Slope_does l _ _ (isAB_len hw) hw ?_
    generalize nA l = p0
    generalize nB l = q0
    simp (disch := omega)
    refine loop_to tab_ok [2, 3, 4, 8, 9, 10, 11, 12, 13, 14, 24, 25, 26, 27, 28, 29, 30, 31, 32, 33, 34, 35, 36, 37, 38, 39, 40, 41, 42, 43, 44, 45, 46, 47, 48, 49, 50, 51, 52, 53, 54, 55, 56, 57, 58] (fun i : Nat => [(8, .int .i64 i)]) (fun i M' => M = M' ∧ 1 ≤ i ∧ (i ≤ l.length ∨ i = 1) ∧ ∀ j < i, cutB l j = false) (fun i => l.length - i) 1 (by kernel_rfl) (by simp (disch := omega)) ⟨rfl, by omega, by omega, fun j hj => by
      have : j = 0 := by omega
      subst this; rfl⟩ ?_
    rintro i M' g ⟨rfl, h1, hi, hn⟩
    by_cases hlt : i < l.length
    · cases hs : isSlope l
      · rw [cutI_not hs] at h
        simp only at h
        simp (disch := omega)
        exact ret_of h
      · have iA := isAB_sub hw (List.take_sublist i l)
        have iB := isAB_sub hw (List.drop_sublist i l)
        simp (disch := omega)
        refine l08Slope_does (l.take i) _ _ (isAB_len iA) iA ?_
        simp (disch := omega)
        refine l08Slope_does (l.drop i) _ _ (isAB_len iB) iB ?_
        have hc : cutB l i = (isSlope (l.take i) && isSlope (l.drop i)) := by unfold cutB; rw [decide_eq_true h1, Bool.true_and]
        generalize nA (l.take i) = p1
        generalize nB (l.take i) = q1
        generalize nA (l.drop i) = p2
        generalize nB (l.drop i) = q2
        cases ha : isSlope (l.take i)
        · rw [ha, Bool.false_and] at hc
          simp (disch := omega)
          refine Rnd.mk' (i + 1) (by omega) (by (repeat (first | exact km | refine kp rfl ?_ | refine km' rfl ?_))) (by simp (disch := omega)) ⟨rfl, by omega, by omega, fun j hj => ?_⟩
          rcases Nat.lt_or_ge j i with h | h
          · exact hn j h
          · rw [show j = i by omega]; exact hc
        · cases hb : isSlope (l.drop i)
          · rw [ha, hb, Bool.true_and] at hc
            simp (disch := omega)
            refine Rnd.mk' (i + 1) (by omega) (by (repeat (first | exact km | refine kp rfl ?_ | refine km' rfl ?_))) (by simp (disch := omega)) ⟨rfl, by omega, by omega, fun j hj => ?_⟩
            rcases Nat.lt_or_ge j i with h | h
            · exact hn j h
            · rw [show j = i by omega]; exact hc
          · rw [ha, hb, Bool.true_and] at hc
            rw [cutI_some hs hlt hc hn] at h
            simp only at h
            simp (disch := omega)
            refine draw_to tab_ok (by kernel_rfl) (by kernel_rfl) (by rfl) ?_
            simp (disch := omega)
            exact ret_of h
    · rw [cutI_none (fun j hj => hn j (by omega))] at h
      simp only at h
      simp (disch := omega) [hlt]
      exact ret_of h
end Go.Proofs.YticejlplbibegaaGreatDoor

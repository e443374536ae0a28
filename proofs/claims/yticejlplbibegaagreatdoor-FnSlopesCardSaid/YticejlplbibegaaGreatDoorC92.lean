/- Contracts: standard words, of both. -/
import Derived.Test.YticejlplbibegaaGreatDoorC91
namespace Go.Proofs.YticejlplbibegaaGreatDoor
open Go Go.RowKit
set_option linter.unusedSimpArgs false
set_option linter.unusedVariables false

theorem repF_len9 (w : List UInt8) (k : Nat) : (repF w k).length = k * w.length := by
  unfold repF
  rw [List.length_flatten, List.map_replicate, List.sum_replicate_nat]
theorem repF_snoc9 (w : List UInt8) (k : Nat) : repF w (k + 1) = repF w k ++ w := by
  unfold repF
  rw [List.replicate_succ', List.flatten_append]; simp
/-- The standard word of a list behind two words. -/
def stdF : List Int → List UInt8 → List UInt8 → Option (List UInt8)
  | [], _, own => some own
  | d :: ds, last, own => if d.toNat * own.length + last.length ≤ 60 then stdF ds own (repF own d.toNat ++ last) else none
def stdAt (zs : List Int) (i : Nat) : Bool := decide ((if i = 0 then 0 else 1) ≤ zs.getD i 0 ∧ zs.getD i 0 ≤ 60)
def stdOk (zs : List Int) : Bool := decide (zs.length ≤ 20) && (List.range zs.length).all (stdAt zs)
def stdC (zs : List Int) : Int := if stdOk zs = true then (match stdF zs [98] [97] with | some _ => 0 | none => 3) else 2
def stdW (zs : List Int) : List UInt8 := if stdOk zs = true then (match stdF zs [98] [97] with | some w => w | none => []) else []
theorem stdF_len : ∀ (ds : List Int) (last own w : List UInt8), own.length ≤ 60 → stdF ds last own = some w → w.length ≤ 60
  | [], last, own, w, h, e => by
    injection e with e
    subst e; exact h
  | d :: ds, last, own, w, h, e => by
    unfold stdF at e
    split at e
    · exact stdF_len ds _ _ w (by rw [List.length_append, repF_len9]; omega) e
    · cases e
theorem stdW_len (zs : List Int) : (stdW zs).length ≤ 60 := by
  unfold stdW
  split
  · split
    · rename_i w h; exact stdF_len zs _ _ w (by decide) h
    · exact Nat.zero_le _
  · exact Nat.zero_le _
theorem stdOk_no {zs : List Int} {i : Nat} (hi : i < zs.length) (h : stdAt zs i = false) : stdOk zs = false := by
  unfold stdOk
  have : (List.range zs.length).all (stdAt zs) = false := by
    rw [List.all_eq_false]
    exact ⟨i, List.mem_range.2 hi, by rw [h]; decide⟩
  rw [this, Bool.and_false]
theorem stdOk_yes {zs : List Int} (hl : zs.length ≤ 20) (h : ∀ j, j < zs.length → stdAt zs j = true) : stdOk zs = true := by
  unfold stdOk
  rw [decide_eq_true hl, Bool.true_and, List.all_eq_true]
  exact fun j hj => h j (List.mem_range.1 hj)
theorem stdAt_is {zs : List Int} {i : Nat} {z : Int} (hi : zs[i]? = some z) : stdAt zs i = decide ((if i = 0 then 0 else 1) ≤ z ∧ z ≤ 60) := by
  unfold stdAt
  rw [List.getD_eq_getElem?_getD, hi]; rfl
theorem ints_at {N : Mem} {a : Option Addr} {c n : Nat} {zs : List Int} (h : Rd N (.slice a n c) (ints zs)) (h1 : 1 ≤ zs.length) : ∃ b o, a = some ⟨b, o, none⟩ ∧ ∀ i, i < zs.length → N.get? b (o + i) = some (.int .i64 (zs.getD i 0)) := by
  obtain ⟨a', c', he, hat⟩ := h.opened
  rw [ints_length] at he hat
  injection he with e1 e2 e3
  rcases hat with h0 | ⟨b, o, e4, hat⟩
  · omega
  · refine ⟨b, o, by rw [e1, e4], fun i hi => ?_⟩
    rw [hat i hi, ints_get, List.getElem?_eq_getElem hi, List.getD_eq_getElem?_getD, List.getElem?_eq_getElem hi]; rfl
theorem drop_cons {zs : List Int} {i : Nat} (h : i < zs.length) : zs.drop i = zs.getD i 0 :: zs.drop (i + 1) := by
  rw [List.getD_eq_getElem?_getD, List.getElem?_eq_getElem h]
  exact List.drop_eq_getElem_cons h
theorem l08Standard_does (v : Value) (zs : List Int) (M : Mem) (R : Value → Mem → Prop) (hv : Rd M v (ints zs)) (hl : zs.length ≤ 20) (hz : ∀ j, j < zs.length → 0 ≤ zs.getD j 0 ∧ zs.getD j 0 ≤ 60)
    (h : R (.tuple #[str (match stdF zs [98] [97] with | some w => w | none => []), .bool (stdF zs [98] [97]).isSome]) M) : Does Tryz.prog 104 [v] M R := by
  obtain ⟨a, c, rfl, _⟩ := hv.opened
  have hv' := hv
  rw [ints_length] at hv' ⊢
  refine does_fn tab_ok Tryz.func104 rfl (by kernel_rfl) (by kernel_rfl) Tryz.ntmps104 Tryz.results104 rfl ?_
  simp (disch := omega)
  refine loop_to tab_ok [2, 3, 4, 5, 6, 7, 8, 9, 10, 11, 12, 13, 14, 15, 16, 17, 18, 19, 20, 21, 22, 23, 24, 25, 26, 27, 28, 29, 30, 31, 32, 33, 34, 35, 36, 37, 38] (fun x : Nat × List UInt8 × List UInt8 => [(6, .int .i64 (x.1 : Nat)), (4, str x.2.1), (5, str x.2.2)]) (fun x M' => M = M' ∧ x.1 ≤ zs.length ∧ stdF (zs.drop x.1) x.2.1 x.2.2 = stdF zs [98] [97] ∧ x.2.1.length ≤ 60 ∧ x.2.2.length ≤ 60) (fun x => zs.length - x.1) (0, [98], [97]) (by kernel_rfl) (by simp (disch := omega)) ⟨rfl, by simp only; omega, rfl, by decide, by decide⟩ ?_
  rintro ⟨i, be, now⟩ M' g ⟨rfl, hi, hS, hb, hn⟩
  simp only at hi hS hb hn
  by_cases hlt : i < zs.length
  · obtain ⟨b, o, rfl, hat⟩ := ints_at hv' (by omega)
    have hg := hat i hlt
    have hzi := hz i hlt
    rw [drop_cons hlt, stdF] at hS
    obtain ⟨d, hd⟩ : ∃ d : Nat, zs.getD i 0 = d := ⟨(zs.getD i 0).toNat, by omega⟩
    rw [hd] at hg hzi hS
    rw [Int.toNat_natCast] at hS
    simp (disch := omega)
    refine loop_to tab_ok [7, 8, 15, 16, 17, 18, 19, 20, 21, 22, 23, 24, 25, 26, 27, 28, 29, 30] (fun k : Nat => [(8, .int .i64 k), (7, str (repF now k))]) (fun k M' => M = M' ∧ k ≤ d ∧ (repF now k).length ≤ 120) (fun k => d - k) 0 (by kernel_rfl) (by simp (disch := omega) [repF]) ⟨rfl, by omega, by simp [repF]⟩ ?_
    rintro k M' g ⟨rfl, hk, hkl⟩
    have hrl := repF_len9 now k
    have hmul : k * now.length ≤ d * now.length := Nat.mul_le_mul_right _ hk
    generalize hX : repF now k = X at *
    by_cases hkd : k < d
    · by_cases h60 : X.length ≤ 60
      · have e : repF now (k + 1) = X ++ now := by rw [repF_snoc9, hX]
        have h60I : (X.length : Int) ≤ 60 := by omega
        simp (disch := omega) [hg, h60, h60I, hkd]
        refine Rnd.mk' (k + 1) (by omega) (by (repeat (first | exact km | refine kp rfl ?_ | refine km' rfl ?_))) (by simp (disch := omega) [e]) ⟨rfl, by omega, ?_⟩
        rw [e, List.length_append]; omega
      · have hno : ¬ d * now.length + be.length ≤ 60 := by omega
        rw [if_neg hno] at hS
        rw [← hS] at h
        have h61 : ¬ ((X.length : Int) ≤ 60) := by omega
        have h62 : 60 < X.length + be.length := by omega
        have h63 : (60 : Int) < (X.length : Int) + be.length := by omega
        simp (disch := omega) [hg, h60, h61, h62, h63]
        exact ret_of h
    · have hkd' : k = d := by omega
      subst hkd'
      by_cases h60 : k * now.length + be.length ≤ 60
      · rw [if_pos h60, hX] at hS
        have h62 : ¬ 60 < X.length + be.length := by omega
        have h63 : ¬ (60 : Int) < (X.length : Int) + be.length := by omega
        simp (disch := omega) [hg, h62, h63]
        refine Rnd.mk' (i + 1, now, X ++ be) (by simp only; omega) (by (repeat (first | exact km | refine kp rfl ?_ | refine km' rfl ?_))) (by simp (disch := omega)) ⟨rfl, by simp only; omega, hS, hn, by simp only [List.length_append]; omega⟩
      · rw [if_neg h60] at hS
        rw [← hS] at h
        have h62 : 60 < X.length + be.length := by omega
        have h63 : (60 : Int) < (X.length : Int) + be.length := by omega
        simp (disch := omega) [hg, h62, h63]
        exact ret_of h
  · have hi' : i = zs.length := by omega
    subst hi'
    rw [List.drop_length, stdF] at hS
    rw [← hS] at h
    simp (disch := omega)
    exact ret_of h
theorem spec_StandardWord (v : Value) (zs : List Int) (M : Mem) (R : Value → Mem → Prop) (hv : Rd M v (ints zs)) (hn : zs.length ≤ 1099511627776) (h : R (tup2 (str (stdW zs)) (stdC zs)) M) : Does Tryz.prog 44 [v] M R := by
  unfold tup2 stdW stdC at h
  obtain ⟨a, c, rfl, _⟩ := hv.opened
  have hv' := hv
  rw [ints_length] at hv' ⊢
  refine does_fn tab_ok Tryz.func44 rfl (by kernel_rfl) (by kernel_rfl) Tryz.ntmps44 Tryz.results44 rfl ?_
  by_cases hl : zs.length ≤ 20
  · have hl' : ¬ (20 : Int) < zs.length := by omega
    have hl2 : ¬ 20 < zs.length := by omega
    simp (disch := omega) [hl', hl2]
    refine loop_to tab_ok [2, 3, 4, 10, 11, 12, 13, 14, 15, 16, 17, 18, 19, 20, 21, 22, 23, 24, 25, 26, 27, 28, 29, 30, 31, 32] (fun i : Nat => [(4, .int .i64 i)]) (fun i M' => M = M' ∧ i ≤ zs.length ∧ ∀ j, j < i → stdAt zs j = true) (fun i => zs.length - i) 0 (by kernel_rfl) (by simp (disch := omega)) ⟨rfl, by omega, fun j hj => by omega⟩ ?_
    rintro i M' g ⟨rfl, hi, hS⟩
    by_cases hlt : i < zs.length
    · obtain ⟨b, o, rfl, hat⟩ := ints_at hv' (by omega)
      have hg := hat i hlt
      have hzi := stdAt_is (zs := zs) (i := i) (z := zs.getD i 0) (by rw [List.getElem?_eq_getElem hlt, List.getD_eq_getElem?_getD, List.getElem?_eq_getElem hlt]; rfl)
      generalize zs.getD i 0 = z at *
      simp (disch := omega) [hg]
      refine l01In_does _ _ _ _ _ ?_
      by_cases h1 : 0 ≤ z ∧ z ≤ 60
      · rw [decide_eq_true h1]
        by_cases h0 : i = 0
        · subst h0
          rw [if_pos rfl, decide_eq_true h1] at hzi
          simp (disch := omega)
          refine Rnd.mk' (0 + 1) (by omega) (by (repeat (first | exact km | refine kp rfl ?_ | refine km' rfl ?_))) (by simp (disch := omega)) ⟨rfl, by omega, fun j hj => ?_⟩
          rw [show j = 0 by omega]; exact hzi
        · have hpos : (0 : Int) < i := by omega
          have hpos' : 0 < i := by omega
          rw [if_neg h0] at hzi
          by_cases hz0 : z = 0
          · rw [decide_eq_false (by omega)] at hzi
            rw [stdOk_no hlt hzi] at h
            simp only [Bool.false_eq_true, if_false] at h
            simp (disch := omega) [hpos, hpos', hg, hz0]
            exact ret_of h
          · rw [decide_eq_true (by omega)] at hzi
            have hz0' : (z == 0) = false := beq_eq_false_iff_ne.2 hz0
            simp (disch := omega) [hpos, hpos', hg, hz0, hz0']
            refine Rnd.mk' (i + 1) (by omega) (by (repeat (first | exact km | refine kp rfl ?_ | refine km' rfl ?_))) (by simp (disch := omega)) ⟨rfl, by omega, fun j hj => ?_⟩
            rcases Nat.lt_or_ge j i with h | h
            · exact hS j h
            · rw [show j = i by omega]; exact hzi
      · rw [decide_eq_false h1]
        have h2 : stdAt zs i = false := by
          rw [hzi]
          refine decide_eq_false fun hh => h1 ⟨?_, hh.2⟩
          have := hh.1
          split at this <;> omega
        rw [stdOk_no hlt h2] at h
        simp only [Bool.false_eq_true, if_false] at h
        simp (disch := omega) [undef]
        exact ret_of h
    · have hi' : i = zs.length := by omega
      subst hi'
      have hok := stdOk_yes hl hS
      rw [hok] at h
      simp only [if_true] at h
      simp (disch := omega)
      refine l08Standard_does _ zs _ _ hv' hl (fun j hj => ?_) ?_
      · have := hS j hj
        unfold stdAt at this
        rw [decide_eq_true_eq] at this
        have h3 := this.1
        split at h3 <;> omega
      · cases hF : stdF zs [98] [97] with
        | none =>
          rw [hF] at h
          simp only [Option.isSome] at h ⊢
          simp (disch := omega)
          exact ret_of h
        | some w =>
          rw [hF] at h
          simp only [Option.isSome] at h ⊢
          simp (disch := omega)
          exact ret_of h
  · have hl' : (20 : Int) < zs.length := by omega
    have hl2 : 20 < zs.length := by omega
    have hno : stdOk zs = false := by unfold stdOk; rw [decide_eq_false hl, Bool.false_and]
    rw [hno] at h
    simp only [Bool.false_eq_true, if_false] at h
    simp (disch := omega) [hl', hl2]
    exact ret_of h
end Go.Proofs.YticejlplbibegaaGreatDoor

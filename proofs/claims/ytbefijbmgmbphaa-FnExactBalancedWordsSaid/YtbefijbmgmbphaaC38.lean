/- Contracts: balanced words of two letters, of the reference. -/
import Derived.Test.YtbefijbmgmbphaaM10
import Derived.Test.YtbefijbmgmbphaaC31
namespace Go.Proofs.Ytbefijbmgmbphaa
open Go
set_option linter.unusedSimpArgs false
set_option linter.unusedVariables false

def nB (u : List UInt8) : Int := cnt u 1
theorem nB_snoc (u : List UInt8) (c : UInt8) : nB (u ++ [c]) = nB u + if c = 98 then 1 else 0 := by
  unfold nB
  rw [cnt_snoc]
  congr 1
  have : c.toNat = 97 + 1 ↔ c = 98 := ⟨fun h => UInt8.toNat_inj.1 (by rw [h]; rfl), fun h => by rw [h]; rfl⟩
  simp only [this]
theorem nB_nil : nB [] = 0 := rfl
theorem nB_in (u : List UInt8) : 0 ≤ nB u ∧ nB u ≤ u.length := cnt_le u 1
theorem at_u8 {L : List UInt8} {j : Nat} {v : UInt8} (h : L[j]? = some v) (hj : j < L.length) : L[j] = v := by
  rw [List.getElem?_eq_getElem hj] at h
  injection h
theorem nB_zero (w : List UInt8) (i : Nat) : nB (seg w i 0) = 0 := by
  unfold seg
  rw [Nat.add_zero, List.drop_of_length_le (by rw [List.length_take]; omega)]
  rfl
theorem seg_snoc {w : List UInt8} {i j : Nat} (h : i + j < w.length) : seg w i (j + 1) = seg w i j ++ [w[i + j]] := by
  unfold seg
  rw [show i + (j + 1) = i + j + 1 by omega, take_snoc w h, List.drop_append_of_le_length (by rw [List.length_take]; omega)]
theorem lo_in {w : List UInt8} {n : Nat} : ∀ i, i + n ≤ w.length + 1 → 0 ≤ loB w n i ∧ loB w n i ≤ n
  | 0, _ => by unfold loB segsA; simp
  | i + 1, h => by
    have h0 := lo_in (w := w) (n := n) i (by omega)
    have h1 := nB_in (seg w i n)
    rw [seg_len (by omega)] at h1
    rw [loB_succ]
    unfold mnF nB at *
    split <;> omega
theorem hi_in {w : List UInt8} {n : Nat} : ∀ i, i + n ≤ w.length + 1 → 0 ≤ hiB w n i ∧ hiB w n i ≤ n
  | 0, _ => by unfold hiB segsA; simp
  | i + 1, h => by
    have h0 := hi_in (w := w) (n := n) i (by omega)
    have h1 := nB_in (seg w i n)
    rw [seg_len (by omega)] at h1
    rw [hiB_succ]
    unfold mxF nB at *
    split <;> omega
theorem l08Balanced_does (w : List UInt8) (M : Mem) (R : Value → Mem → Prop) (hl : w.length ≤ 60) (h : R (.bool (balB2 w)) M) : Does Try.prog 122 [str w] M R := by
  refine does_fn tab_ok Try.func122 rfl (by kernel_rfl) (by kernel_rfl) Try.ntmps122 Try.results122 rfl ?_
  simp (disch := omega)
  refine loop_to tab_ok [2, 3, 4, 5, 6, 7, 8, 9, 10, 11, 12, 13, 14, 15, 16, 17, 18, 19, 20, 21, 22, 23, 24, 25, 26, 27, 28, 29, 30, 31, 32, 33, 34, 35, 36, 37, 38, 39, 40, 41, 42, 43, 44, 45, 46, 47] (fun n : Nat => [(3, .int .i64 ((n : Int) + 1))]) (fun n M' => n ≤ w.length ∧ M' = M ∧ balTo w n = true) (fun n => w.length - n) 0 (by kernel_rfl) (by simp (disch := omega)) ⟨by omega, rfl, rfl⟩ ?_
  rintro n M' g ⟨hn, rfl, hto⟩
  by_cases hlt : n < w.length
  · have hts := balTo_succ w n
    simp (disch := omega)
    refine loop_to tab_ok [4, 5, 6, 7, 8, 16, 17, 18, 19, 20, 21, 22, 23, 24, 25, 26, 27, 28, 29, 30, 31, 32, 33, 34, 35, 36, 37, 38, 39, 40, 41, 42, 43] (fun i : Nat => [(6, .int .i64 i), (4, .int .i64 (loB w (n + 1) i)), (5, .int .i64 (hiB w (n + 1) i))]) (fun i M1 => i ≤ w.length - n ∧ M1 = M') (fun i => w.length - i) 0 (by kernel_rfl) (by simp (disch := omega); exact ⟨rfl, rfl⟩) ⟨by omega, rfl⟩ ?_
    rintro i M1 g1 ⟨hi, rfl⟩
    have hlo := lo_in (w := w) (n := n + 1) i (by omega)
    have hhi := hi_in (w := w) (n := n + 1) i (by omega)
    by_cases hil : i < w.length - n
    · have e1 := loB_succ w (n + 1) i
      have e2 := hiB_succ w (n + 1) i
      have hsl : (seg w i (n + 1)).length = n + 1 := seg_len (by omega)
      generalize loB w (n + 1) i = lo at *
      generalize hiB w (n + 1) i = hi' at *
      simp (disch := omega)
      refine loop_to tab_ok [7, 8, 25, 26, 27, 28, 29, 30, 31, 32, 33, 34, 35, 36, 37] (fun k : Nat => [(8, .int .i64 k), (7, .int .i64 (nB (seg w i (k - i))))]) (fun k M2 => i ≤ k ∧ k ≤ i + (n + 1) ∧ M2 = M1) (fun k => i + (n + 1) - k) i (by kernel_rfl) (by simp (disch := omega); rw [nB_zero]) ⟨by omega, by omega, rfl⟩ ?_
      rintro k M2 g2 ⟨hk, hk', rfl⟩
      obtain ⟨j, hj⟩ : ∃ j, j = k - i := ⟨_, rfl⟩
      rw [← hj]
      have hnb := nB_in (seg w i j)
      rw [seg_len (by omega)] at hnb
      by_cases hjl : k < i + (n + 1)
      · have hij : i + j = k := by omega
        have hkl : k < w.length := by omega
        have hx : w[k]? = some w[k] := List.getElem?_eq_getElem hkl
        have hsn := nB_snoc (seg w i j) w[i + j]
        rw [← seg_snoc (by omega)] at hsn
        have hu := w[k].toNat_lt
        have hww : w[i + j] = w[k] := by simp only [hij]
        rw [hww] at hsn
        have hj1 : k + 1 - i = j + 1 := by omega
        generalize w[k] = c at *
        generalize nB (seg w i j) = q at *
        by_cases hc : c = 98
        · have hc' : ((c.toNat : Int) == 98) = true := by rw [hc]; rfl
          rw [if_pos hc] at hsn
          simp (disch := omega) [hx, at_u8 hx, hc']
          exact Rnd.mk' (k + 1) (by omega) (by (repeat (first | exact km | refine kp rfl ?_ | refine km' rfl ?_))) (by rw [hj1]; simp (disch := omega) [hsn]; try omega) ⟨by omega, by omega, rfl⟩
        · have hc' : ((c.toNat : Int) == 98) = false := by
            rw [beq_eq_false_iff_ne]
            intro e
            exact hc (UInt8.toNat_inj.1 (by rw [show (98 : UInt8).toNat = 98 from rfl]; omega))
          rw [if_neg hc, Int.add_zero] at hsn
          simp (disch := omega) [hx, at_u8 hx, hc']
          exact Rnd.mk' (k + 1) (by omega) (by (repeat (first | exact km | refine kp rfl ?_ | refine km' rfl ?_))) (by rw [hj1]; simp (disch := omega) [hsn]; try omega) ⟨by omega, by omega, rfl⟩
      · have hj' : j = n + 1 := by omega
        rw [hj'] at hnb ⊢
        unfold mnF at e1
        unfold mxF at e2
        have e1 : loB w (n + 1) (i + 1) = if nB (seg w i (n + 1)) < lo then nB (seg w i (n + 1)) else lo := e1
        have e2 : hiB w (n + 1) (i + 1) = if hi' < nB (seg w i (n + 1)) then nB (seg w i (n + 1)) else hi' := e2
        generalize nB (seg w i (n + 1)) = q at *
        simp (disch := omega)
        exact Rnd.mk' (i + 1) (by omega) (by (repeat (first | exact km | refine kp rfl ?_ | refine km' rfl ?_))) (by simp (disch := omega) [e1, e2]) ⟨by omega, rfl⟩
    · have hi' : i = w.length - n := by omega
      subst hi'
      have hok : okB8 w (n + 1) = decide (hiB w (n + 1) (w.length - n) - loB w (n + 1) (w.length - n) ≤ 1) := by
        unfold okB8
        rw [show w.length - (n + 1) + 1 = w.length - n by omega]
      generalize hiB w (n + 1) (w.length - n) = hh at *
      generalize loB w (n + 1) (w.length - n) = ll at *
      by_cases hbad : 1 < hh - ll
      · have hf : okB8 w (n + 1) = false := by rw [hok]; exact decide_eq_false (by omega)
        have : balB2 w = false := balTo_no hlt hf
        rw [this] at h
        simp (disch := omega) [hbad]
        exact ret_of h
      · have ht : okB8 w (n + 1) = true := by rw [hok]; exact decide_eq_true (by omega)
        simp (disch := omega) [hbad]
        exact Rnd.mk' (n + 1) (by omega) (by (repeat (first | exact km | refine kp rfl ?_ | refine km' rfl ?_))) (by simp (disch := omega); try omega) ⟨by omega, rfl, by rw [hts, hto, ht]; rfl⟩
  · have hn' : n = w.length := by omega
    subst hn'
    have : balB2 w = true := hto
    rw [this] at h
    simp (disch := omega)
    exact ret_of h
end Go.Proofs.Ytbefijbmgmbphaa

/- Contracts: bytes sorted by insertion. -/
import Derived.Test.YticejlplbibegaaEB
import Derived.Test.YticejlplbibegaaM20
namespace Go.Proofs.Yticejlplbibegaa
open Go
set_option linter.unusedSimpArgs false
set_option linter.unusedVariables false

theorem getK {M : Mem} {b c i : Nat} {w : Bool} {L : List UInt8} (h : M b = some (.cells w (bytesV L) c)) (hi : i < L.length) : M.get? b i = some (.int .u8 (K L i : Nat)) := by
  rw [get_of h]
  unfold bytesV
  rw [List.getElem?_map, List.getElem?_eq_getElem hi, K_at hi]; rfl
theorem setK (L A : List UInt8) (i j : Nat) : (bytesV L).set i (.int .u8 (K A j : Nat)) = bytesV (L.set i (A.getD j 0)) := by
  unfold bytesV K
  rw [List.map_set]
theorem swp_fold (L : List UInt8) (i j : Nat) : (L.set i (L.getD j 0)).set j (L.getD i 0) = swp L i j := rfl
theorem swp_get {L : List UInt8} {i j : Nat} (hi : i < L.length) (hj : j < L.length) : (L.set i (L[j]'hj)).set j (L[i]'hi) = swp L i j := by
  unfold swp
  rw [List.getD_eq_getElem?_getD, List.getElem?_eq_getElem hj, List.getD_eq_getElem?_getD, List.getElem?_eq_getElem hi]; rfl
theorem lenK (L : List UInt8) : (bytesV L).length = L.length := bytesV_length L
theorem put_self {M : Mem} {b : Nat} {B : Blk} (h : M b = some B) : M.put b B = M := by
  funext i
  unfold Mem.put
  split
  · rename_i e; subst e; exact h.symm
  · rfl
theorem isNaN_does (x : Nat) (M : Mem) (R : Value → Mem → Prop) (h : R (.bool false) M) : Does Try.prog 93 [.int .u8 x] M R := by
  refine does_fn tab_ok Try.func93 rfl (by kernel_rfl) (by kernel_rfl) Try.ntmps93 Try.results93 rfl ?_
  have e : ((x : Int) != (x : Int)) = false := by simp
  simp (disch := omega) [e]
  exact ret_of h
theorem lessB_does (x y : Nat) (M : Mem) (R : Value → Mem → Prop) (h : R (.bool (decide (x < y))) M) : Does Try.prog 81 [.int .u8 x, .int .u8 y] M R := by
  have e : decide ((x : Int) < (y : Int)) = decide (x < y) := by
    by_cases hh : x < y
    · rw [decide_eq_true hh]; exact decide_eq_true (by omega)
    · rw [decide_eq_false hh]; exact decide_eq_false (by omega)
  refine does_fn tab_ok Try.func81 rfl (by kernel_rfl) (by kernel_rfl) Try.ntmps81 Try.results81 rfl ?_
  simp (disch := omega)
  refine isNaN_does x _ _ ?_
  simp (disch := omega) [e]
  exact ret_of h
theorem insertB_does (b c lo hi : Nat) (L : List UInt8) (M : Mem) (R : Value → Mem → Prop) (hM : M b = some (.cells true (bytesV L) c)) (hc : L.length ≤ c) (hl : L.length ≤ 1000000) (hlo : lo ≤ hi) (hhi : hi ≤ L.length)
    (h : ∀ L', SP lo hi L L' → SS lo hi L' → R (.tuple #[]) (M.put b (.cells true (bytesV L') c))) : Does Try.prog 75 [.slice (some ⟨b, 0, none⟩) L.length c, .int .i64 lo, .int .i64 hi] M R := by
  refine does_fn tab_ok Try.func75 rfl (by kernel_rfl) (by kernel_rfl) Try.ntmps75 Try.results75 rfl ?_
  simp (disch := omega)
  refine loop_to tab_ok [6, 7, 10, 11, 12, 13, 14, 15, 16, 17, 18, 19, 20, 21, 22, 23, 24, 25, 26, 27, 28, 29, 30, 31, 32, 33, 34, 35, 36, 37, 38, 39, 40, 41, 42, 43, 44, 45, 46, 47, 48] (fun x : Nat × List UInt8 => [(6, .int .i64 x.1)]) (fun x M' => M.put b (.cells true (bytesV x.2) c) = M' ∧ lo + 1 ≤ x.1 ∧ (x.1 ≤ hi ∨ x.1 = lo + 1) ∧ SP lo hi L x.2 ∧ SS lo x.1 x.2) (fun x => hi + 1 - x.1) (lo + 1, L) (by kernel_rfl) (by simp (disch := omega)) ⟨put_self hM, Nat.le_refl _, .inr rfl, SP.refl _ _ _, SS.one _ (Nat.le_refl _)⟩ ?_
  rintro ⟨i, L1⟩ M' g ⟨rfl, h1, h2, hsp, hss⟩
  simp only at h1 h2 hsp hss
  have hl1 := hsp.len
  by_cases hlt : i < hi
  · simp (disch := omega)
    refine loop_to tab_ok [7, 16, 17, 18, 19, 20, 21, 22, 23, 24, 25, 26, 27, 28, 29, 30, 31, 32, 33, 34, 35, 36, 37, 38, 39, 40, 41, 42, 43, 44, 45, 46, 47, 48] (fun x : Nat × List UInt8 => [(7, .int .i64 x.1)]) (fun x M' => M.put b (.cells true (bytesV x.2) c) = M' ∧ lo ≤ x.1 ∧ x.1 ≤ i ∧ SP lo hi L x.2 ∧ Ins lo i x.1 x.2) (fun x => x.1) (i, L1) (by kernel_rfl) (by simp (disch := omega)) ⟨rfl, by simp only; omega, Nat.le_refl _, hsp, Ins.start hss⟩ ?_
    clear hsp hss hl1
    rintro ⟨j, L2⟩ M' g2 ⟨rfl, hj1, hj2, hsp, hin⟩
    simp only at hj1 hj2 hsp hin
    have hl2 := hsp.len
    have kM : (M.put b (.cells true (bytesV L2) c)) b = some (.cells true (bytesV L2) c) := put_same _ _ _
    have kj := getK kM (i := j) (by omega)
    by_cases hja : lo < j
    · obtain ⟨q, hq⟩ : ∃ q, j = q + 1 := ⟨j - 1, by omega⟩
      subst hq
      have kq := getK kM (i := q) (by omega)
      have e1 : ((q + 1 : Nat) : Int) - 1 = q := by omega
      simp (disch := omega)
      refine draw_to tab_ok (by kernel_rfl) (by kernel_rfl) (by rfl) ?_
      simp (disch := omega) [kj, kq]
      refine vQCall_at (a := []) (c := []) (lessB_does _ _ _ _ ⟨rfl, rfl⟩) ?_
      by_cases hk : K L2 (q + 1) < K L2 q
      · have hst := hin.step (by omega) hj2 (by omega) (by simpa using hk)
        have hsw := SP.swp (L := L2) (a := lo) (b := hi) (i := q + 1) (j := q) (by omega) (by omega) (by omega) (by omega) (by omega)
        rw [decide_eq_true hk]
        simp (disch := omega)
        refine plays (lights [0, 1, 2, 3, 4, 5, 6, 7, 8, 9, 10, 11, 12, 13, 14] (.one 15 2 (lights [16] (.one 17 2 .fin)))) tab_ok (by kernel_rfl) (by kernel_rfl) (by rfl) ?_
        simp (disch := omega) [kj, kq, kM, set_is, setK, lenK]
        refine Rnd.mk' (q, swp L2 (q + 1) q) (by simp only; omega) (by (repeat (first | exact km | refine kp rfl ?_ | refine km' rfl ?_))) (by simp (disch := omega)) ⟨by simp only [put_put, swp_get], by simp only; omega, by simp only; omega, hsp.trans hsw, hst⟩
      · rw [decide_eq_false hk]
        simp (disch := omega)
        have hs2 := hin.done hj1 (.inr (by simpa using Nat.le_of_not_lt hk))
        refine Rnd.mk' (i + 1, L2) (by simp only; omega) (by (repeat (first | exact km | refine kp rfl ?_ | refine km' rfl ?_))) (by simp (disch := omega)) ⟨rfl, by simp only; omega, .inl (by simp only; omega), hsp, hs2⟩
    · have hja' : j = lo := by omega
      subst hja'
      simp (disch := omega)
      refine draw_to tab_ok (by kernel_rfl) (by kernel_rfl) (by rfl) ?_
      simp (disch := omega)
      have hs2 := hin.done hj1 (.inl rfl)
      refine Rnd.mk' (i + 1, L2) (by simp only; omega) (by (repeat (first | exact km | refine kp rfl ?_ | refine km' rfl ?_))) (by simp (disch := omega)) ⟨rfl, by simp only; omega, .inl (by simp only; omega), hsp, hs2⟩
  · simp (disch := omega)
    refine ret_of (h L1 hsp ?_)
    rcases h2 with h2 | h2
    · rw [show hi = i by omega]; exact hss
    · exact SS.one _ (by omega)
end Go.Proofs.Yticejlplbibegaa

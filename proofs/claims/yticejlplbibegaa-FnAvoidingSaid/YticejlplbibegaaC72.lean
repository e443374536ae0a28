/- Contracts: unavoidable patterns, of the reference. -/
import Derived.Test.YticejlplbibegaaC71
namespace Go.Proofs.Yticejlplbibegaa
open Go
set_option linter.unusedSimpArgs false
set_option linter.unusedVariables false

def oc (p : List UInt8) (k : Nat) : Bool := p.any fun c => vIdx c == k
def metV (p : List UInt8) : List Value := [.bool (oc p 0), .bool (oc p 1), .bool (oc p 2)]
def dstN (p : List UInt8) : Nat := (if oc p 0 then 1 else 0) + (if oc p 1 then 1 else 0) + (if oc p 2 then 1 else 0)
theorem oc_snoc (p : List UInt8) (c : UInt8) (k : Nat) : oc (p ++ [c]) k = (oc p k || (vIdx c == k)) := by simp [oc]
theorem met_get (p : List UInt8) {k : Nat} (h : k < 3) : (metV p)[k]? = some (.bool (oc p k)) := by
  have : k = 0 ∨ k = 1 ∨ k = 2 := by omega
  rcases this with rfl | rfl | rfl <;> rfl
theorem met_set (p : List UInt8) (c : UInt8) (h : vIdx c < 3) (hn : oc p (vIdx c) = false) : (metV p).set (vIdx c) (.bool true) = metV (p ++ [c]) ∧ dstN (p ++ [c]) = dstN p + 1 := by
  unfold metV dstN
  simp only [oc_snoc]
  have : vIdx c = 0 ∨ vIdx c = 1 ∨ vIdx c = 2 := by omega
  rcases this with e | e | e <;> rw [e] at hn ⊢ <;> simp [hn] <;> omega
theorem met_same (p : List UInt8) (c : UInt8) (h : vIdx c < 3) (hn : oc p (vIdx c) = true) : metV (p ++ [c]) = metV p ∧ dstN (p ++ [c]) = dstN p := by
  unfold metV dstN
  simp only [oc_snoc]
  have : vIdx c = 0 ∨ vIdx c = 1 ∨ vIdx c = 2 := by omega
  rcases this with e | e | e <;> rw [e] at hn ⊢ <;> simp [hn]
theorem dst_range {p : List UInt8} (h1 : p ≠ []) (hp : ∀ c ∈ p, vIdx c < 3) : 1 ≤ dstN p ∧ dstN p ≤ 3 := by
  constructor
  · cases p with
    | nil => exact absurd rfl h1
    | cons c p =>
      have hc := hp c List.mem_cons_self
      have ho : oc (c :: p) (vIdx c) = true := by unfold oc; rw [List.any_cons, beq_self_eq_true, Bool.true_or]
      unfold dstN
      have : vIdx c = 0 ∨ vIdx c = 1 ∨ vIdx c = 2 := by omega
      rcases this with e | e | e <;> rw [e] at ho <;> rw [ho] <;> simp <;> omega
  · unfold dstN
    split <;> split <;> split <;> omega
def unavB (p : List UInt8) : Bool := isPat p && hasB (zimF (dstN p)) p
def unavC (p : List UInt8) : Int := if isPat p then 0 else 1
theorem spec_IsUnavoidable (p : List UInt8) (M : Mem) (R : Value → Mem → Prop) (hl : p.length ≤ 1099511627776) (h : ∀ M', Sub M M' → R (tup2 (.bool (unavB p)) (unavC p)) M') : Does Try.prog 5 [str p] M R := by
  unfold tup2 unavB unavC at h
  refine does_fn tab_ok Try.func5 rfl (by kernel_rfl) (by kernel_rfl) Try.ntmps5 Try.results5 rfl ?_
  simp (disch := omega)
  refine l10Is_does p _ _ hl ?_
  cases hp : isPat p
  · rw [hp] at h
    simp (disch := omega)
    exact ret_of (h _ (Sub.refl _))
  · rw [hp, if_pos rfl, Bool.true_and] at h
    obtain ⟨hp1, hp8, hpv⟩ := isPat_in hp
    have hlt3 := pat_lt hp
    have hne : p ≠ [] := by rintro rfl; simp at hp1
    have hr := dst_range hne hlt3
    rw [← has_same hlt3 hne] at h
    simp (disch := omega)
    intro b hb
    have hs : ∀ X, Sub M (M.put b X) := fun X => (Sub.refl M).put hb X
    simp (disch := omega)
    refine loop_to tab_ok [5, 6, 11, 12, 13, 14, 15, 16, 17, 18, 19, 20, 21, 22, 23, 24, 25, 26, 27, 28, 29, 30, 31, 32] (fun i : Nat => [(6, .int .i64 i), (5, .int .i64 (dstN (p.take i) : Nat))]) (fun i M' => M.put b (.cells true (metV (p.take i)) 3) = M' ∧ i ≤ p.length ∧ dstN (p.take i) ≤ i) (fun i => p.length - i) 0 (by kernel_rfl) (by simp (disch := omega) [dstN, oc]) ⟨rfl, by omega, by simp [dstN, oc]⟩ ?_
    rintro i M' g ⟨rfl, hi, hd⟩
    by_cases hlt : i < p.length
    · have hpx : p[i]? = some p[i] := List.getElem?_eq_getElem hlt
      have hpr := isV_range (List.all_eq_true.1 hpv _ (List.getElem_mem hlt))
      have hv3 := hlt3 _ (List.getElem_mem hlt)
      have hvk : (p[i].toNat : Int) - 65 = (vIdx p[i] : Nat) := by unfold vIdx; omega
      have htk := take_snoc p hlt
      have hg := met_get (p.take i) hv3
      have k0 : (M.put b (.cells true (metV (p.take i)) 3)) b = some (.cells true (metV (p.take i)) 3) := put_same _ _ _
      have hgg := get_of k0 (vIdx p[i])
      rw [hg] at hgg
      have hml : (metV (p.take i)).length = 3 := rfl
      cases ho : oc (p.take i) (vIdx p[i])
      · obtain ⟨m1, m2⟩ := met_set (p.take i) p[i] hv3 ho
        rw [← htk] at m1 m2
        rw [ho] at hgg
        generalize metV (p.take i) = L0 at *
        generalize vIdx p[i] = K at *
        generalize p[i] = u at *
        simp (disch := omega) [hpx, at_u8 hpx, hvk, hgg, k0, m1, set_is]
        refine Rnd.mk' (i + 1) (by omega) (by (repeat (first | exact km | refine kp rfl ?_ | refine km' rfl ?_))) (by simp (disch := omega) [m2]) ⟨by first | rfl | rw [put_put], by omega, by omega⟩
      · obtain ⟨m1, m2⟩ := met_same (p.take i) p[i] hv3 ho
        rw [← htk] at m1 m2
        rw [ho] at hgg
        generalize vIdx p[i] = K at *
        generalize p[i] = u at *
        simp (disch := omega) [hpx, at_u8 hpx, hvk, hgg]
        refine Rnd.mk' (i + 1) (by omega) (by (repeat (first | exact km | refine kp rfl ?_ | refine km' rfl ?_))) (by simp (disch := omega) [m2]) ⟨by rw [m1], by omega, by omega⟩
    · have hi' : i = p.length := by omega
      subst hi'
      rw [List.take_length] at hd ⊢
      obtain ⟨q, hq⟩ : ∃ q, dstN p = q + 1 := ⟨dstN p - 1, by omega⟩
      rw [hq] at h ⊢
      have hqi : ((q + 1 : Nat) : Int) = (q : Int) + 1 := by omega
      have hzl := zimF_len (q + 1) (by omega)
      simp (disch := omega) [hqi]
      refine l10Zimin_does q _ _ (by omega) ?_
      simp (disch := omega)
      refine l10Has_does (zimF (q + 1)) p _ _ (by omega) hp ?_
      simp (disch := omega)
      exact ret_of (h _ (hs _))
end Go.Proofs.Yticejlplbibegaa

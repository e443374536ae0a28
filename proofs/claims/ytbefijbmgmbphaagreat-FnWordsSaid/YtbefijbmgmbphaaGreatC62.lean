/- Contracts: products, turned words, words compared, common beginnings and ends, words of letters. -/
import Derived.Test.YtbefijbmgmbphaaGreatC14
import Derived.Test.YtbefijbmgmbphaaGreatC43
namespace Go.Proofs.YtbefijbmgmbphaaGreat
open Go
set_option linter.unusedSimpArgs false
set_option linter.unusedVariables false

def twoC (w u : List UInt8) : Int := if isWord w && isWord u then 0 else 1
def prodC (w u : List UInt8) : Int := if isWord w && isWord u then (if 60 < (w ++ u).length then 3 else 0) else 1
def prodT (w u : List UInt8) : List UInt8 := if isWord w && isWord u then (if 60 < (w ++ u).length then [] else w ++ u) else []
theorem codeOf2 (w u : List UInt8) : codeOf [w, u] true = twoC w u := by
  unfold twoC codeOf
  simp
theorem fine2w {w u : List UInt8} (hw : w.length ≤ 1099511627776) (hu : u.length ≤ 1099511627776) : Fine [w, u] := by
  intro x hx
  simp only [List.mem_cons, List.not_mem_nil, or_false] at hx
  rcases hx with rfl | rfl
  · exact hw
  · exact hu
theorem at_u8L {L : List UInt8} {j : Nat} {v : UInt8} (h : L[j]? = some v) (hj : j < L.length) : L[j] = v := by
  rw [List.getElem?_eq_getElem hj] at h
  injection h
theorem impl_ProductOf (w u : List UInt8) (M : Mem) (R : Value → Mem → Prop) (hw : w.length ≤ 1099511627776) (hu : u.length ≤ 1099511627776) (h : ∀ M', Sub M M' → R (tup2 (str (prodT w u)) (prodC w u)) M') : Does Tryz.prog 6 [str w, str u] M R := by
  unfold tup2 prodT prodC at h
  refine does_fn tab_ok Tryz.func6 rfl (by kernel_rfl) (by kernel_rfl) Tryz.ntmps6 Tryz.results6 rfl ?_
  simp (disch := omega)
  intro b1 hb1
  simp (disch := omega)
  have hs1 : Sub M (M.put b1 (.cells true [str w, str u] 2)) := (Sub.refl _).put hb1 _
  refine wordCode_does _ _ [w, u] true (fun _ => True) _ _ (Rd.new rfl (Nat.le_refl 2)) (fine2w hw hu) (by simp) trivial stab_true (always_tells _) ?_
  rw [codeOf2]
  unfold twoC
  cases hb : isWord w && isWord u
  · rw [hb] at h
    simp (disch := omega)
    exact ret_of (h _ hs1)
  · rw [hb, if_pos rfl, if_pos rfl] at h
    by_cases hl : 60 < (w ++ u).length
    · rw [if_pos hl, if_pos hl] at h
      have hl' : (60 : Int) < (w.length : Int) + u.length := by rw [List.length_append] at hl; omega
      simp (disch := omega) [hl']
      exact ret_of (h _ hs1)
    · rw [if_neg hl, if_neg hl] at h
      have hl' : ¬ (60 : Int) < (w.length : Int) + u.length := by rw [List.length_append] at hl; omega
      simp (disch := omega) [hl']
      exact ret_of (h _ hs1)
theorem l01Told_does (w : List UInt8) (M : Mem) (R : Value → Mem → Prop) (hw : w.length ≤ 9007199254740992) (h : R (tup2 (str (if 60 < w.length then [] else w)) (if 60 < w.length then 3 else 0)) M) : Does Tryz.prog 40 [str w] M R := by
  unfold tup2 at h
  refine does_fn tab_ok Tryz.func40 rfl (by kernel_rfl) (by kernel_rfl) Tryz.ntmps40 Tryz.results40 rfl ?_
  by_cases hl : 60 < w.length
  · rw [if_pos hl, if_pos hl] at h
    have hl' : (60 : Int) < (w.length : Nat) := by omega
    simp (disch := omega) [hl']
    exact ret_of h
  · rw [if_neg hl, if_neg hl] at h
    have hl' : ¬ (60 : Int) < (w.length : Nat) := by omega
    simp (disch := omega) [hl']
    exact ret_of h
theorem spec_ProductOf (w u : List UInt8) (M : Mem) (R : Value → Mem → Prop) (hw : w.length ≤ 1099511627776) (hu : u.length ≤ 1099511627776) (h : R (tup2 (str (prodT w u)) (prodC w u)) M) : Does Tryz.prog 7 [str w, str u] M R := by
  unfold tup2 prodT prodC at h
  refine does_fn tab_ok Tryz.func7 rfl (by kernel_rfl) (by kernel_rfl) Tryz.ntmps7 Tryz.results7 rfl ?_
  simp (disch := omega)
  refine l01Is_does w _ _ hw ?_
  cases h1 : isWord w
  · rw [h1] at h
    simp (disch := omega)
    exact ret_of h
  · rw [h1, Bool.true_and] at h
    simp (disch := omega)
    refine l01Is_does u _ _ hu ?_
    cases h2 : isWord u
    · rw [h2] at h
      simp (disch := omega)
      exact ret_of h
    · rw [h2, if_pos rfl, if_pos rfl] at h
      simp (disch := omega)
      refine l01Told_does (w ++ u) _ _ (by rw [List.length_append]; omega) ?_
      rw [List.length_append] at h ⊢
      simp (disch := omega) [tup2]
      exact ret_of h
/-- How many first letters two words share. -/
def cmn : List UInt8 → List UInt8 → Nat
  | a :: w, b :: u => if a = b then cmn w u + 1 else 0
  | _, _ => 0
theorem cmn_le : ∀ w u : List UInt8, cmn w u ≤ w.length ∧ cmn w u ≤ u.length
  | [], _ => ⟨Nat.zero_le _, Nat.zero_le _⟩
  | _ :: _, [] => ⟨Nat.zero_le _, Nat.zero_le _⟩
  | a :: w, b :: u => by
    have ih := cmn_le w u
    unfold cmn
    split
    · simp only [List.length_cons]; omega
    · exact ⟨Nat.zero_le _, Nat.zero_le _⟩
theorem cmn_all : ∀ (w u : List UInt8) (i : Nat), i ≤ cmn w u → w.take i = u.take i
  | _, _, 0, _ => by simp
  | [], _, i + 1, h => by unfold cmn at h; omega
  | _ :: _, [], i + 1, h => by unfold cmn at h; omega
  | a :: w, b :: u, i + 1, h => by
    unfold cmn at h
    split at h
    · rename_i e
      subst e
      rw [List.take_succ_cons, List.take_succ_cons, cmn_all w u i (by omega)]
    · omega
theorem cmn_at : ∀ (w u : List UInt8) (i : Nat), w.take i = u.take i → i ≤ w.length → i ≤ u.length → i ≤ cmn w u
  | _, _, 0, _, _, _ => Nat.zero_le _
  | [], _, i + 1, _, h, _ => by simp at h
  | _ :: _, [], i + 1, _, _, h => by simp at h
  | a :: w, b :: u, i + 1, h, h1, h2 => by
    rw [List.take_succ_cons, List.take_succ_cons] at h
    injection h with e1 e2
    have := cmn_at w u i e2 (by simpa using h1) (by simpa using h2)
    unfold cmn
    rw [if_pos e1]; omega
theorem cmn_stop {w u : List UInt8} {i : Nat} (h : w.take i = u.take i) (h1 : i ≤ w.length) (h2 : i ≤ u.length) (hs : ¬ (i < w.length ∧ i < u.length) ∨ ∃ x y, w[i]? = some x ∧ u[i]? = some y ∧ x ≠ y) : cmn w u = i := by
  have a := cmn_at w u i h h1 h2
  have b := cmn_le w u
  rcases hs with hs | ⟨x, y, hx, hy, hn⟩
  · omega
  · apply Classical.byContradiction
    intro hne
    have hc := cmn_all w u (i + 1) (by omega)
    have e1 := congrArg (fun l => l[i]?) hc
    simp only [List.getElem?_take, Nat.lt_succ_self, if_true] at e1
    rw [hx, hy] at e1
    exact hn (Option.some.inj e1)
theorem common_does (w u : List UInt8) (M : Mem) (R : Value → Mem → Prop) (hw : w.length ≤ 1099511627776) (hu : u.length ≤ 1099511627776) (h : R (str (w.take (cmn w u))) M) : Does Tryz.prog 49 [str w, str u] M R := by
  refine does_fn tab_ok Tryz.func49 rfl (by kernel_rfl) (by kernel_rfl) Tryz.ntmps49 Tryz.results49 rfl ?_
  simp (disch := omega)
  refine loop_to tab_ok [5, 6, 7, 8, 9, 10, 11, 12, 13, 14, 15, 16, 17, 18, 19, 20, 21, 22, 23] (fun i : Nat => [(5, .int .i64 i)]) (fun i M' => M = M' ∧ i ≤ w.length ∧ i ≤ u.length ∧ w.take i = u.take i) (fun i => w.length - i) 0 (by kernel_rfl) (by simp (disch := omega)) ⟨rfl, by omega, by omega, by simp⟩ ?_
  rintro i M' g ⟨rfl, hi1, hi2, he⟩
  simp (disch := omega)
  refine draw_to tab_ok (by kernel_rfl) (by kernel_rfl) (by rfl) ?_
  by_cases hlt : i < w.length ∧ i < u.length
  · have hx : w[i]? = some w[i] := List.getElem?_eq_getElem hlt.1
    have hy : u[i]? = some u[i] := List.getElem?_eq_getElem hlt.2
    have hmin : (i : Int) < min (w.length : Int) u.length := by omega
    have hmin2 : (i : Int) < if (u.length : Int) < w.length then (u.length : Int) else w.length := by split <;> omega
    have hmin3 : (i : Int) < if u.length < w.length then (u.length : Int) else w.length := by split <;> omega
    have ht1 := take_snoc w hlt.1
    have ht2 := take_snoc u hlt.2
    by_cases hq : w[i] = u[i]
    · rw [hq] at hx ht1
      generalize u[i] = y at *
      simp (disch := omega) [hx, hy, at_u8L hx, at_u8L hy, hmin, hmin2, hmin3]
      refine Rnd.mk' (i + 1) (by omega) (by (repeat (first | exact km | refine kp rfl ?_ | refine km' rfl ?_))) (by simp (disch := omega)) ⟨rfl, by omega, by omega, by rw [ht1, ht2, he]⟩
    · have hq2 : ¬ (w[i].toNat : Int) = u[i].toNat := fun e => hq (UInt8.toNat_inj.1 (by omega))
      have hq3 : ((w[i].toNat : Int) == (u[i].toNat : Int)) = false := beq_eq_false_iff_ne.2 hq2
      have hst := cmn_stop he hi1 hi2 (.inr ⟨_, _, hx, hy, hq⟩)
      generalize w[i] = x at *
      generalize u[i] = y at *
      rw [hst] at h
      simp (disch := omega) [hx, hy, at_u8L hx, at_u8L hy, hmin, hmin2, hmin3, hq, hq2, hq3]
      exact ret_of h
  · have hmin : ¬ (i : Int) < min (w.length : Int) u.length := by omega
    have hmin2 : ¬ (i : Int) < if (u.length : Int) < w.length then (u.length : Int) else w.length := by split <;> omega
    have hmin3 : ¬ (i : Int) < if u.length < w.length then (u.length : Int) else w.length := by split <;> omega
    have hst := cmn_stop he hi1 hi2 (.inl hlt)
    rw [hst] at h
    simp (disch := omega) [hmin, hmin2, hmin3]
    exact ret_of h
end Go.Proofs.YtbefijbmgmbphaaGreat

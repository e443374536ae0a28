/- Merged: C62 C63. -/
import Derived.Test.YthpcojnpiggaiaaGreatC14
import Derived.Test.YthpcojnpiggaiaaGreatC43
import Derived.Test.YthpcojnpiggaiaaGreatC44
/-! Contracts: products, turned words, words compared, common beginnings and ends, words of letters. -/
namespace Go.Proofs.YthpcojnpiggaiaaGreat
open Go
set_option linter.unusedSimpArgs false
set_option linter.unusedVariables false

def twoC (w u : List UInt8) : Int := if isWord w && isWord u then 0 else 1
def prodC (w u : List UInt8) : Int := if isWord w && isWord u then (if 60 < (w ++ u).length then 3 else 0) else 1
def prodT (w u : List UInt8) : List UInt8 := if isWord w && isWord u then (if 60 < (w ++ u).length then [] else w ++ u) else []
theorem codeOf2 (w u : List UInt8) : codeOf [w, u] true = twoC w u := by
  unfold twoC codeOf
  simp
theorem fine2w {w u : List UInt8} (hw : w.length ≤ 1099511627776) (hu : u.length ≤ 1099511627776) : Fine [w, u] := by
  intro x hx
  simp only [List.mem_cons, List.not_mem_nil, or_false] at hx
  rcases hx with rfl | rfl
  · exact hw
  · exact hu
theorem at_u8L {L : List UInt8} {j : Nat} {v : UInt8} (h : L[j]? = some v) (hj : j < L.length) : L[j] = v := by
  rw [List.getElem?_eq_getElem hj] at h
  injection h
/-- How many first letters two words share. -/
def cmn : List UInt8 → List UInt8 → Nat
  | a :: w, b :: u => if a = b then cmn w u + 1 else 0
  | _, _ => 0
theorem cmn_le : ∀ w u : List UInt8, cmn w u ≤ w.length ∧ cmn w u ≤ u.length
  | [], _ => ⟨Nat.zero_le _, Nat.zero_le _⟩
  | _ :: _, [] => ⟨Nat.zero_le _, Nat.zero_le _⟩
  | a :: w, b :: u => by
    have ih := cmn_le w u
    unfold cmn
    split
    · simp only [List.length_cons]; omega
    · exact ⟨Nat.zero_le _, Nat.zero_le _⟩
theorem cmn_all : ∀ (w u : List UInt8) (i : Nat), i ≤ cmn w u → w.take i = u.take i
  | _, _, 0, _ => by simp
  | [], _, i + 1, h => by unfold cmn at h; omega
  | _ :: _, [], i + 1, h => by unfold cmn at h; omega
  | a :: w, b :: u, i + 1, h => by
    unfold cmn at h
    split at h
    · rename_i e
      subst e
      rw [List.take_succ_cons, List.take_succ_cons, cmn_all w u i (by omega)]
    · omega
theorem cmn_at : ∀ (w u : List UInt8) (i : Nat), w.take i = u.take i → i ≤ w.length → i ≤ u.length → i ≤ cmn w u
  | _, _, 0, _, _, _ => Nat.zero_le _
  | [], _, i + 1, _, h, _ => by simp at h
  | _ :: _, [], i + 1, _, _, h => by simp at h
  | a :: w, b :: u, i + 1, h, h1, h2 => by
    rw [List.take_succ_cons, List.take_succ_cons] at h
    injection h with e1 e2
    have := cmn_at w u i e2 (by simpa using h1) (by simpa using h2)
    unfold cmn
    rw [if_pos e1]; omega
theorem cmn_stop {w u : List UInt8} {i : Nat} (h : w.take i = u.take i) (h1 : i ≤ w.length) (h2 : i ≤ u.length) (hs : ¬ (i < w.length ∧ i < u.length) ∨ ∃ x y, w[i]? = some x ∧ u[i]? = some y ∧ x ≠ y) : cmn w u = i := by
  have a := cmn_at w u i h h1 h2
  have b := cmn_le w u
  rcases hs with hs | ⟨x, y, hx, hy, hn⟩
  · omega
  · apply Classical.byContradiction
    intro hne
    have hc := cmn_all w u (i + 1) (by omega)
    have e1 := congrArg (fun l => l[i]?) hc
    simp only [List.getElem?_take, Nat.lt_succ_self, if_true] at e1
    rw [hx, hy] at e1
    exact hn (Option.some.inj e1)
end Go.Proofs.YthpcojnpiggaiaaGreat
/-! Contracts: common beginnings and ends, turned words, of both. -/
namespace Go.Proofs.YthpcojnpiggaiaaGreat
open Go
set_option linter.unusedSimpArgs false
set_option linter.unusedVariables false

def cbgT (w u : List UInt8) : List UInt8 := if isWord w && isWord u then w.take (cmn w u) else []
def cendN (w u : List UInt8) : Nat := cmn w.reverse u.reverse
def cendT (w u : List UInt8) : List UInt8 := if isWord w && isWord u then w.drop (w.length - cendN w u) else []
theorem cend_rev (w u : List UInt8) : (w.reverse.take (cendN w u)).reverse = w.drop (w.length - cendN w u) := by
  rw [List.reverse_take, List.reverse_reverse, List.length_reverse]
theorem l01Reversed_does (l : List UInt8) (M : Mem) (R : Value → Mem → Prop) (hl : l.length ≤ 1000000) (h : ∀ M', Sub M M' → R (str l.reverse) M') : Does Tryz.prog 51 [str l] M R := by
  refine does_fn tab_ok Tryz.func51 rfl (by kernel_rfl) (by kernel_rfl) Tryz.ntmps51 Tryz.results51 rfl ?_
  simp (disch := omega)
  intro b0 hb0
  have o0 : Own M (.slice (some ⟨b0, 0, none⟩) 0 0) (bytesV []) (M.put b0 (.cells true [] 0)) := Own.new hb0 rfl (Nat.le_refl 0)
  simp (disch := omega)
  generalize M.put b0 (.cells true [] 0) = N0 at *
  generalize Value.slice (some ⟨b0, 0, none⟩) 0 0 = v0 at *
  refine loop_to tab_ok [3, 4, 9, 10, 11, 12, 13, 14, 15, 16, 17, 18] (fun x : Nat × Value => [(4, .int .i64 ((l.length : Int) - 1 - x.1)), (3, x.2)]) (fun x M' => x.1 ≤ l.length ∧ Own M x.2 (bytesV (l.reverse.take x.1)) M') (fun x => l.length - x.1) (0, v0) (by kernel_rfl) (by simp (disch := omega)) ⟨by omega, by rw [List.take_zero]; exact o0⟩ ?_
  rintro ⟨j, v⟩ M' g ⟨hj, ho⟩
  simp only at hj ho
  by_cases hlt : j < l.length
  · have hlr : j < l.reverse.length := by rw [List.length_reverse]; exact hlt
    have htk := take_snoc l.reverse hlr
    have hge : (0 : Int) ≤ (l.length : Int) - 1 - j := by omega
    obtain ⟨q, hq⟩ : ∃ q : Nat, (l.length : Int) - 1 - j = q := ⟨l.length - 1 - j, by omega⟩
    have hx : l[q]? = some l.reverse[j] := by
      rw [List.getElem_reverse, List.getElem?_eq_getElem (by omega)]
      congr 1
      congr 1
      omega
    have hlen : (l.reverse.take j).length = j := by rw [List.length_take, List.length_reverse]; omega
    have hq0 : (0 : Int) ≤ q := by omega
    have hqn : (q : Int) - 1 = (l.length : Int) - 1 - ((j + 1 : Nat) : Int) := by omega
    generalize l.reverse[j] = y at *
    simp (disch := omega) [hq, hx, at_u8L hx]
    intro b' hb'
    simp (disch := omega)
    refine app_own ho ((Sub.refl _).put hb' _) (by simp (disch := omega); rfl) rfl rfl (by omega) (by simp (disch := omega)) (by simp (disch := omega); omega) ?_
    intro v' M'' N'' ho' hs'
    simp (disch := omega)
    refine Rnd.mk'' M'' (j + 1, v') hs' (by simp only; omega) (by (repeat (first | exact km | refine kp rfl ?_ | refine km' rfl ?_))) (by simp (disch := omega); omega) ⟨by simp only; omega, ?_⟩
    simp only
    rw [htk, ← bytes_snoc]
    exact ho'
  · have hj' : j = l.length := by omega
    subst hj'
    have hge : ¬ (0 : Int) ≤ (l.length : Int) - 1 - l.length := by omega
    rw [List.take_of_length_le (by rw [List.length_reverse]; exact Nat.le_refl _)] at ho
    have hs := ho.sub
    rcases ho with ⟨rfl, he, rfl⟩ | ⟨b2, c2, rfl, hM, hc, rfl⟩
    · have e0 : l.reverse = [] := by cases hr : l.reverse <;> simp [hr, bytesV] at he ⊢
      rw [e0] at h
      simp (disch := omega) [hge]
      exact ret_of (h _ (Sub.refl _))
    · have htk : List.take l.reverse.length (bytesV l.reverse) = bytesV l.reverse := List.take_of_length_le (by rw [bytesV_length]; exact Nat.le_refl _)
      have htk2 : List.take l.length (bytesV l.reverse) = bytesV l.reverse := List.take_of_length_le (by rw [bytesV_length, List.length_reverse]; exact Nat.le_refl _)
      simp (disch := omega) [hge, htk, htk2, decB_bytesV]
      exact ret_of (h _ hs)
end Go.Proofs.YthpcojnpiggaiaaGreat

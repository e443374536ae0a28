/- Contracts: products, turned words, words compared, common beginnings and ends, words of letters. -/
import Derived.Test.YticejlplbibegaaGreatDoorC14
import Derived.Test.YticejlplbibegaaGreatDoorC43
namespace Go.Proofs.YticejlplbibegaaGreatDoor
open Go
set_option linter.unusedSimpArgs false
set_option linter.unusedVariables false

def twoC (w u : List UInt8) : Int := if isWord w && isWord u then 0 else 1
def prodC (w u : List UInt8) : Int := if isWord w && isWord u then (if 60 < (w ++ u).length then 3 else 0) else 1
def prodT (w u : List UInt8) : List UInt8 := if isWord w && isWord u then (if 60 < (w ++ u).length then [] else w ++ u) else []
theorem codeOf2 (w u : List UInt8) : codeOf [w, u] true = twoC w u := by
  unfold twoC codeOf
  simp
theorem fine2w {w u : List UInt8} (hw : w.length ≤ 1099511627776) (hu : u.length ≤ 1099511627776) : Fine [w, u] := by
  intro x hx
  simp only [List.mem_cons, List.not_mem_nil, or_false] at hx
  rcases hx with rfl | rfl
  · exact hw
  · exact hu
theorem at_u8L {L : List UInt8} {j : Nat} {v : UInt8} (h : L[j]? = some v) (hj : j < L.length) : L[j] = v := by
  rw [List.getElem?_eq_getElem hj] at h
  injection h
/-- How many first letters two words share. -/
def cmn : List UInt8 → List UInt8 → Nat
  | a :: w, b :: u => if a = b then cmn w u + 1 else 0
  | _, _ => 0
theorem cmn_le : ∀ w u : List UInt8, cmn w u ≤ w.length ∧ cmn w u ≤ u.length
  | [], _ => ⟨Nat.zero_le _, Nat.zero_le _⟩
  | _ :: _, [] => ⟨Nat.zero_le _, Nat.zero_le _⟩
  | a :: w, b :: u => by
    have ih := cmn_le w u
    unfold cmn
    split
    · simp only [List.length_cons]; omega
    · exact ⟨Nat.zero_le _, Nat.zero_le _⟩
theorem cmn_all : ∀ (w u : List UInt8) (i : Nat), i ≤ cmn w u → w.take i = u.take i
  | _, _, 0, _ => by simp
  | [], _, i + 1, h => by unfold cmn at h; omega
  | _ :: _, [], i + 1, h => by unfold cmn at h; omega
  | a :: w, b :: u, i + 1, h => by
    unfold cmn at h
    split at h
    · rename_i e
      subst e
      rw [List.take_succ_cons, List.take_succ_cons, cmn_all w u i (by omega)]
    · omega
theorem cmn_at : ∀ (w u : List UInt8) (i : Nat), w.take i = u.take i → i ≤ w.length → i ≤ u.length → i ≤ cmn w u
  | _, _, 0, _, _, _ => Nat.zero_le _
  | [], _, i + 1, _, h, _ => by simp at h
  | _ :: _, [], i + 1, _, _, h => by simp at h
  | a :: w, b :: u, i + 1, h, h1, h2 => by
    rw [List.take_succ_cons, List.take_succ_cons] at h
    injection h with e1 e2
    have := cmn_at w u i e2 (by simpa using h1) (by simpa using h2)
    unfold cmn
    rw [if_pos e1]; omega
theorem cmn_stop {w u : List UInt8} {i : Nat} (h : w.take i = u.take i) (h1 : i ≤ w.length) (h2 : i ≤ u.length) (hs : ¬ (i < w.length ∧ i < u.length) ∨ ∃ x y, w[i]? = some x ∧ u[i]? = some y ∧ x ≠ y) : cmn w u = i := by
  have a := cmn_at w u i h h1 h2
  have b := cmn_le w u
  rcases hs with hs | ⟨x, y, hx, hy, hn⟩
  · omega
  · apply Classical.byContradiction
    intro hne
    have hc := cmn_all w u (i + 1) (by omega)
    have e1 := congrArg (fun l => l[i]?) hc
    simp only [List.getElem?_take, Nat.lt_succ_self, if_true] at e1
    rw [hx, hy] at e1
    exact hn (Option.some.inj e1)
end Go.Proofs.YticejlplbibegaaGreatDoor

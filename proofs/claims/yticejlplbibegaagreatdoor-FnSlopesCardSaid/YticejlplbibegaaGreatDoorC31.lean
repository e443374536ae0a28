/- Contracts: balances of words, of the reference. -/
import Derived.Test.YticejlplbibegaaGreatDoorM7
import Derived.Test.YticejlplbibegaaGreatDoorC21
import Derived.Test.YticejlplbibegaaGreatDoorEB
namespace Go.Proofs.YticejlplbibegaaGreatDoor
open Go
set_option linter.unusedSimpArgs false
set_option linter.unusedVariables false

theorem vec_at (g : Nat → Int) {i : Nat} (h : i < 5) : (ints (vec g))[i]? = some (.int .i64 (g i)) := by rw [ints_get, vec_get g h]; rfl
theorem vec_put (f : Int → Int → Int) (g : Nat → Int) (u : List UInt8) {i : Nat} (h : i < 5) : (ints (vec (stpB f g u i))).set i (.int .i64 (f (g i) (cnt u i))) = ints (vec (stpB f g u (i + 1))) := by rw [ints_set, vec_set f g u h]
theorem vec_len (g : Nat → Int) : (ints (vec g)).length = 5 := rfl
theorem at_u8 {L : List UInt8} {j : Nat} {v : UInt8} (h : L[j]? = some v) (hj : j < L.length) : L[j] = v := by
  rw [List.getElem?_eq_getElem hj] at h
  injection h
theorem at_in {L : List Value} {j : Nat} {v : Value} (h : L[j]? = some v) (hj : j < L.length) : L[j] = v := by
  rw [List.getElem?_eq_getElem hj] at h
  exact Option.some.inj h
/-- A list of numbers of its own that is not empty lies in a block. -/
theorem Own.block {M M' : Mem} {v : Value} {g : Nat → Int} (o : Own M v (ints (vec g)) M') : ∃ b c, v = .slice (some ⟨b, 0, none⟩) 5 c ∧ M b = none ∧ 5 ≤ c ∧ M' = M.put b (.cells true (ints (vec g)) c) := by
  rcases o with ⟨_, e, _⟩ | ⟨b, c, rfl, hb, hc, rfl⟩
  · cases e
  · exact ⟨b, c, rfl, hb, hc, rfl⟩
end Go.Proofs.YticejlplbibegaaGreatDoor

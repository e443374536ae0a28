/- Contracts of the laws' help: equal lists of lists, sums of numbers; draws of numbers near a range. -/
import Derived.Test.YticejlplbibegaaGreatDoorC46
import Derived.Test.YticejlplbibegaaGreatDoorCB
namespace Go.Proofs.YticejlplbibegaaGreatDoor
open Go
set_option linter.unusedSimpArgs false
set_option linter.unusedVariables false

theorem near_does (s : Rng) (m : Nat) (M : Mem) (R : Value → Mem → Prop) (hs : SrcR M s) (hm : m ≤ 1000) (h : ∀ x M', DrR s M M' → R (.int .i64 x) M') : Does Tryz.prog 64 [.pointer (some ⟨s.b, 0, none⟩), .int .i64 m] M R := by
  refine does_fn tab_ok Tryz.func64 rfl (by kernel_rfl) (by kernel_rfl) Tryz.ntmps64 Tryz.results64 rfl ?_
  simp (disch := omega)
  refine nx_does s 14 _ _ hs ?_
  intro x M1 _ hx d1
  by_cases h0 : x = 0
  · simp (disch := omega) [h0]
    intro b hb
    dsimp only
    have r := rd_fresh d1.src hb (c := 4) (n := 4) (w := true) (xs := ints [-1, (m : Int) + 1, 1099511627776, -4611686018427387904]) rfl (Nat.le_refl 4)
    simp (disch := omega)
    refine pick_does s _ [-1, (m : Int) + 1, 1099511627776, -4611686018427387904] _ _ (d1.src.sub ((Sub.refl M1).put hb _)) r (by simp) (by simp) ?_
    intro z _ M2 d2
    simp (disch := omega)
    exact ret_of (h z _ ((d1.trans (DrR.sub d1.src ((Sub.refl M1).put hb _))).trans d2))
  · simp (disch := omega) [h0]
    refine nx_does s _ _ _ d1.src ?_
    intro y M2 _ _ d2
    simp (disch := omega)
    exact ret_of (h y _ (d1.trans d2))
end Go.Proofs.YticejlplbibegaaGreatDoor

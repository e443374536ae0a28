/- Draws: numbers near a range with their bounds; patterns and numbers. -/
import Derived.Test.YticejlplbibegaaGreatDoorC56
import Derived.Test.YticejlplbibegaaGreatDoorC49
namespace Go.Proofs.YticejlplbibegaaGreatDoor
open Go
set_option linter.unusedSimpArgs false
set_option linter.unusedVariables false

/-- Numbers that a draw near a range comes to. -/
def NearOk (x : Int) : Prop := -4611686018427387904 ≤ x ∧ x ≤ 1099511627776
theorem near2_does (s : Rng) (m : Nat) (M : Mem) (R : Value → Mem → Prop) (hs : SrcR M s) (hm : m ≤ 1000000) (h : ∀ x M', NearOk x → DrR s M M' → R (.int .i64 x) M') : Does Tryz.prog 64 [.pointer (some ⟨s.b, 0, none⟩), .int .i64 m] M R := by
  refine does_fn tab_ok Tryz.func64 rfl (by kernel_rfl) (by kernel_rfl) Tryz.ntmps64 Tryz.results64 rfl ?_
  simp (disch := omega)
  refine nx_does s 14 _ _ hs ?_
  intro x M1 _ hx d1
  by_cases h0 : x = 0
  · simp (disch := omega) [h0]
    intro b hb
    dsimp only
    have r := rd_fresh d1.src hb (c := 4) (n := 4) (w := true) (xs := ints [-1, (m : Int) + 1, 1099511627776, -4611686018427387904]) rfl (Nat.le_refl 4)
    simp (disch := omega)
    refine pick_does s _ [-1, (m : Int) + 1, 1099511627776, -4611686018427387904] _ _ (d1.src.sub ((Sub.refl M1).put hb _)) r (by simp) (by simp) ?_
    intro z hz M2 d2
    simp (disch := omega)
    refine ret_of (h z _ ?_ ((d1.trans (DrR.sub d1.src ((Sub.refl M1).put hb _))).trans d2))
    simp only [List.mem_cons, List.not_mem_nil, or_false] at hz
    unfold NearOk
    omega
  · simp (disch := omega) [h0]
    refine nx_does s _ _ _ d1.src ?_
    intro y M2 _ hy d2
    have hy := hy (by omega)
    simp (disch := omega)
    exact ret_of (h y _ ⟨by omega, by omega⟩ (d1.trans d2))
/-- A number out of a list of numbers that was just laid. -/
theorem pickN_does (s : Rng) (b : Nat) (n : Nat) (zs : List Int) (M0 M : Mem) (R : Value → Mem → Prop) (hs : SrcR M0 s) (hb : M0 b = none) (hM : M = M0.put b (.cells true (ints zs) n)) (hn : zs.length = n) (h1 : 1 ≤ zs.length) (hl : zs.length ≤ 1000)
    (h : ∀ z ∈ zs, ∀ M', DrR s M0 M' → R (.int .i64 z) M') : Does Tryz.prog 63 [.pointer (some ⟨s.b, 0, none⟩), .slice (some ⟨b, 0, none⟩) n n] M R := by
  subst hM
  refine pick_does s _ zs _ _ (hs.sub ((Sub.refl _).put hb _)) (rd_fresh hs hb (by rw [ints_length]; exact hn) (Nat.le_refl n)) h1 hl ?_
  intro z hz M' d
  exact h z hz M' ((DrR.sub hs ((Sub.refl _).put hb _)).trans d)
end Go.Proofs.YticejlplbibegaaGreatDoor

/- Contracts of the laws' help: equal lists of lists, sums of numbers; draws of numbers near a range. -/
import Derived.Test.YtbefijbmgmbphaaGreatC46
import Derived.Test.YtbefijbmgmbphaaGreatCB
namespace Go.Proofs.YtbefijbmgmbphaaGreat
open Go
set_option linter.unusedSimpArgs false
set_option linter.unusedVariables false

theorem sum_does (v : Value) (xs : List Nat) (M : Mem) (R : Value → Mem → Prop) (hv : Rd M v (natsV xs)) (hl : xs.length ≤ 1099511627776) (hs : xs.sum ≤ 1099511627776) (h : R (.int .i64 xs.sum) M) : Does Tryz.prog 16 [v] M R := by
  refine does_fn tab_ok Tryz.func16 rfl (by kernel_rfl) (by kernel_rfl) Tryz.ntmps16 Tryz.results16 rfl ?_
  obtain ⟨a, c, rfl, ha⟩ := hv.opened
  have hnl : (natsV xs).length = xs.length := by simp [natsV]
  rw [hnl] at ha ⊢
  simp (disch := omega)
  refine loop_to tab_ok [3, 4, 5, 6, 7, 8, 9, 10, 11, 12, 13, 14, 15, 16] (fun i : Nat => [(4, .int .i64 i), (3, .int .i64 ((xs.take i).sum : Nat))]) (fun i M' => M' = M ∧ i ≤ xs.length) (fun i => xs.length - i) 0 (by kernel_rfl) (by simp (disch := omega)) ⟨rfl, by omega⟩ ?_
  rintro i M' g ⟨rfl, hi⟩
  by_cases hlt : i < xs.length
  · rcases ha with h0 | ⟨b, o, rfl, hs1⟩
    · omega
    have hg := hs1 i hlt
    have e : (natsV xs)[i]? = some (.int .i64 (xs[i] : Nat)) := by simp [natsV, hlt]
    rw [e] at hg
    have e2 : (xs.take (i + 1)).sum = (xs.take i).sum + xs[i] := by rw [take_snoc xs hlt, List.sum_append, List.sum_singleton]
    have e3 : (xs.take (i + 1)).sum ≤ xs.sum := by
      have := List.take_append_drop (i + 1) xs
      have h2 : xs.sum = (xs.take (i + 1)).sum + (xs.drop (i + 1)).sum := by rw [← List.sum_append, this]
      omega
    generalize xs[i] = z at *
    simp (disch := omega) [hg]
    refine Rnd.mk' (i + 1) (by omega) (by (repeat (first | exact km | refine kp rfl ?_ | refine km' rfl ?_))) (by simp (disch := omega); rw [e2]; omega) ⟨rfl, by omega⟩
  · have hi' : i = xs.length := by omega
    subst hi'
    simp (disch := omega)
    refine ret_of ?_
    simpa using h
theorem near_does (s : Rng) (m : Nat) (M : Mem) (R : Value → Mem → Prop) (hs : SrcR M s) (hm : m ≤ 1000) (h : ∀ x M', DrR s M M' → R (.int .i64 x) M') : Does Tryz.prog 52 [.pointer (some ⟨s.b, 0, none⟩), .int .i64 m] M R := by
  refine does_fn tab_ok Tryz.func52 rfl (by kernel_rfl) (by kernel_rfl) Tryz.ntmps52 Tryz.results52 rfl ?_
  simp (disch := omega)
  refine nx_does s 14 _ _ hs ?_
  intro x M1 _ hx d1
  by_cases h0 : x = 0
  · simp (disch := omega) [h0]
    intro b hb
    dsimp only
    have r := rd_fresh d1.src hb (c := 4) (n := 4) (w := true) (xs := ints [-1, (m : Int) + 1, 1099511627776, -4611686018427387904]) rfl (Nat.le_refl 4)
    simp (disch := omega)
    refine pick_does s _ [-1, (m : Int) + 1, 1099511627776, -4611686018427387904] _ _ (d1.src.sub ((Sub.refl M1).put hb _)) r (by simp) (by simp) ?_
    intro z _ M2 d2
    simp (disch := omega)
    exact ret_of (h z _ ((d1.trans (DrR.sub d1.src ((Sub.refl M1).put hb _))).trans d2))
  · simp (disch := omega) [h0]
    refine nx_does s _ _ _ d1.src ?_
    intro y M2 _ _ d2
    simp (disch := omega)
    exact ret_of (h y _ (d1.trans d2))
end Go.Proofs.YtbefijbmgmbphaaGreat

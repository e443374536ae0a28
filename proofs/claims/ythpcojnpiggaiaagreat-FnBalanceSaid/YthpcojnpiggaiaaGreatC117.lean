/- Contracts: rows of numbers compared (rows5). -/
import Derived.Test.YthpcojnpiggaiaaGreatCB
namespace Go.Proofs.YthpcojnpiggaiaaGreat
open Go
set_option linter.unusedSimpArgs false
set_option linter.unusedVariables false
theorem rows5_does (v v' : Value) (xs ys : List (List Int)) (M : Mem) (R : Value → Mem → Prop) (hx : RdSS M v xs) (hy : RdSS M v' ys) (hl : xs.length ≤ 1099511627776) (hl' : ys.length ≤ 1099511627776)
    (hr : ∀ r ∈ xs, r.length ≤ 1099511627776) (hr' : ∀ r ∈ ys, r.length ≤ 1099511627776)
    (h : R (.bool (xs == ys)) M) : Does Tryz.prog 20 [v, v'] M R := by
  refine does_fn tab_ok Tryz.func20 rfl (by kernel_rfl) (by kernel_rfl) Tryz.ntmps20 Tryz.results20 rfl ?_
  obtain ⟨rs, hx, n1, hxr⟩ := hx
  obtain ⟨rs', hy, n2, hyr⟩ := hy
  obtain ⟨a, c, rfl, ha⟩ := hx.opened
  obtain ⟨a', c', rfl, ha'⟩ := hy.opened
  rw [n1] at ha ⊢
  rw [n2] at ha' ⊢
  by_cases hne : xs.length = ys.length
  · simp (disch := omega) [hne]
    refine loop_to tab_ok [4, 5, 11, 12, 13, 14, 15, 16, 17, 18, 19, 20, 21, 22, 23, 24, 25, 26] (fun i : Nat => [(5, .int .i64 i)]) (fun i M' => M' = M ∧ i ≤ xs.length ∧ xs.take i = ys.take i) (fun i => xs.length - i) 0 (by kernel_rfl) (by simp (disch := omega)) ⟨rfl, by omega, rfl⟩ ?_
    rintro i M' g ⟨rfl, hi, he⟩
    by_cases hlt : i < xs.length
    · rcases ha with h0 | ⟨b, o, rfl, hs⟩
      · omega
      rcases ha' with h0 | ⟨b', o', rfl, hs'⟩
      · omega
      have hlt' : i < ys.length := by omega
      have hx : xs[i]? = some xs[i] := List.getElem?_eq_getElem hlt
      have hy : ys[i]? = some ys[i] := List.getElem?_eq_getElem hlt'
      obtain ⟨x, x1, x2⟩ := hxr i _ hx
      obtain ⟨y, y1, y2⟩ := hyr i _ hy
      have hg := hs i (by omega)
      have hg' := hs' i (by omega)
      rw [x1] at hg
      rw [y1] at hg'
      simp (disch := omega) [hne]
      refine draw_to tab_ok (by kernel_rfl) (by kernel_rfl) (by rfl) ?_
      simp (disch := omega) [hg, hg']
      refine vQCall_at (a := []) (c := []) (likeInts_does x y _ _ _ _ x2 y2 (hr _ (List.getElem_mem hlt)) (hr' _ (List.getElem_mem hlt')) ⟨rfl, rfl⟩) ?_
      by_cases hq : xs[i] = ys[i]
      · have hq' : (xs[i] == ys[i]) = true := by rw [hq]; exact beq_self_eq_true _
        simp (disch := omega) [hq']
        refine Rnd.mk' (i + 1) (by omega) (by (repeat (first | exact km | refine kp rfl ?_ | refine km' rfl ?_))) (by simp (disch := omega)) ⟨rfl, by omega, ?_⟩
        rw [take_snoc xs hlt, take_snoc ys hlt', he, hq]
      · have hq' : (xs[i] == ys[i]) = false := beq_eq_false_iff_ne.2 hq
        simp (disch := omega) [hq']
        refine ret_of ?_
        have : (xs == ys) = false := by
          rw [beq_eq_false_iff_ne]; rintro rfl; exact hq rfl
        rw [this] at h; exact h
    · have hi' : i = xs.length := by omega
      subst hi'
      simp (disch := omega) [hne]
      refine ret_of ?_
      have : xs = ys := take_beq hne he
      subst this
      simpa using h
  · simp (disch := omega) [hne]
    refine ret_of ?_
    have : (xs == ys) = false := by
      rw [beq_eq_false_iff_ne]; rintro rfl; exact hne rfl
    rw [this] at h; exact h
end Go.Proofs.YthpcojnpiggaiaaGreat

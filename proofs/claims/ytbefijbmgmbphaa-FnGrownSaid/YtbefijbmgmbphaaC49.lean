/- Contracts of the laws' help: equal lists of lists, sums of numbers; draws of numbers near a range. -/
import Derived.Test.YtbefijbmgmbphaaC46
import Derived.Test.YtbefijbmgmbphaaC9
namespace Go.Proofs.Ytbefijbmgmbphaa
open Go
set_option linter.unusedSimpArgs false
set_option linter.unusedVariables false

theorem rows9_does (v v' : Value) (xs ys : List (List Int)) (M : Mem) (R : Value → Mem → Prop) (hx : RdSS M v xs) (hy : RdSS M v' ys) (hl : xs.length ≤ 1099511627776) (hl' : ys.length ≤ 1099511627776)
    (hr : ∀ r ∈ xs, r.length ≤ 1099511627776) (hr' : ∀ r ∈ ys, r.length ≤ 1099511627776)
    (h : R (.bool (xs == ys)) M) : Does Try.prog 61 [v, v'] M R := by
  refine does_fn tab_ok Try.func61 rfl (by kernel_rfl) (by kernel_rfl) Try.ntmps61 Try.results61 rfl ?_
  obtain ⟨rs, hx, n1, hxr⟩ := hx
  obtain ⟨rs', hy, n2, hyr⟩ := hy
  obtain ⟨a, c, rfl, ha⟩ := hx.opened
  obtain ⟨a', c', rfl, ha'⟩ := hy.opened
  rw [n1] at ha ⊢
  rw [n2] at ha' ⊢
  by_cases hne : xs.length = ys.length
  · simp (disch := omega) [hne]
    refine loop_to tab_ok [4, 5, 11, 12, 13, 14, 15, 16, 17, 18, 19, 20, 21, 22, 23, 24, 25, 26] (fun i : Nat => [(5, .int .i64 i)]) (fun i M' => M' = M ∧ i ≤ xs.length ∧ xs.take i = ys.take i) (fun i => xs.length - i) 0 (by kernel_rfl) (by simp (disch := omega)) ⟨rfl, by omega, rfl⟩ ?_
    rintro i M' g ⟨rfl, hi, he⟩
    by_cases hlt : i < xs.length
    · rcases ha with h0 | ⟨b, o, rfl, hs⟩
      · omega
      rcases ha' with h0 | ⟨b', o', rfl, hs'⟩
      · omega
      have hlt' : i < ys.length := by omega
      have hx : xs[i]? = some xs[i] := List.getElem?_eq_getElem hlt
      have hy : ys[i]? = some ys[i] := List.getElem?_eq_getElem hlt'
      obtain ⟨x, x1, x2⟩ := hxr i _ hx
      obtain ⟨y, y1, y2⟩ := hyr i _ hy
      have hg := hs i (by omega)
      have hg' := hs' i (by omega)
      rw [x1] at hg
      rw [y1] at hg'
      simp (disch := omega) [hne]
      refine draw_to tab_ok (by kernel_rfl) (by kernel_rfl) (by rfl) ?_
      simp (disch := omega) [hg, hg']
      refine vQCall_at (a := []) (c := []) (likeInts_does x y _ _ _ _ x2 y2 (hr _ (List.getElem_mem hlt)) (hr' _ (List.getElem_mem hlt')) ⟨rfl, rfl⟩) ?_
      by_cases hq : xs[i] = ys[i]
      · have hq' : (xs[i] == ys[i]) = true := by rw [hq]; exact beq_self_eq_true _
        simp (disch := omega) [hq']
        refine Rnd.mk' (i + 1) (by omega) (by (repeat (first | exact km | refine kp rfl ?_ | refine km' rfl ?_))) (by simp (disch := omega)) ⟨rfl, by omega, ?_⟩
        rw [take_snoc xs hlt, take_snoc ys hlt', he, hq]
      · have hq' : (xs[i] == ys[i]) = false := beq_eq_false_iff_ne.2 hq
        simp (disch := omega) [hq']
        refine ret_of ?_
        have : (xs == ys) = false := by
          rw [beq_eq_false_iff_ne]; rintro rfl; exact hq rfl
        rw [this] at h; exact h
    · have hi' : i = xs.length := by omega
      subst hi'
      simp (disch := omega) [hne]
      refine ret_of ?_
      have : xs = ys := take_beq hne he
      subst this
      simpa using h
  · simp (disch := omega) [hne]
    refine ret_of ?_
    have : (xs == ys) = false := by
      rw [beq_eq_false_iff_ne]; rintro rfl; exact hne rfl
    rw [this] at h; exact h
theorem sum_does (v : Value) (xs : List Nat) (M : Mem) (R : Value → Mem → Prop) (hv : Rd M v (natsV xs)) (hl : xs.length ≤ 1099511627776) (hs : xs.sum ≤ 1099511627776) (h : R (.int .i64 xs.sum) M) : Does Try.prog 66 [v] M R := by
  refine does_fn tab_ok Try.func66 rfl (by kernel_rfl) (by kernel_rfl) Try.ntmps66 Try.results66 rfl ?_
  obtain ⟨a, c, rfl, ha⟩ := hv.opened
  have hnl : (natsV xs).length = xs.length := by simp [natsV]
  rw [hnl] at ha ⊢
  simp (disch := omega)
  refine loop_to tab_ok [3, 4, 5, 6, 7, 8, 9, 10, 11, 12, 13, 14, 15, 16] (fun i : Nat => [(4, .int .i64 i), (3, .int .i64 ((xs.take i).sum : Nat))]) (fun i M' => M' = M ∧ i ≤ xs.length) (fun i => xs.length - i) 0 (by kernel_rfl) (by simp (disch := omega)) ⟨rfl, by omega⟩ ?_
  rintro i M' g ⟨rfl, hi⟩
  by_cases hlt : i < xs.length
  · rcases ha with h0 | ⟨b, o, rfl, hs1⟩
    · omega
    have hg := hs1 i hlt
    have e : (natsV xs)[i]? = some (.int .i64 (xs[i] : Nat)) := by simp [natsV, hlt]
    rw [e] at hg
    have e2 : (xs.take (i + 1)).sum = (xs.take i).sum + xs[i] := by rw [take_snoc xs hlt, List.sum_append, List.sum_singleton]
    have e3 : (xs.take (i + 1)).sum ≤ xs.sum := by
      have := List.take_append_drop (i + 1) xs
      have h2 : xs.sum = (xs.take (i + 1)).sum + (xs.drop (i + 1)).sum := by rw [← List.sum_append, this]
      omega
    generalize xs[i] = z at *
    simp (disch := omega) [hg]
    refine Rnd.mk' (i + 1) (by omega) (by (repeat (first | exact km | refine kp rfl ?_ | refine km' rfl ?_))) (by simp (disch := omega); rw [e2]; omega) ⟨rfl, by omega⟩
  · have hi' : i = xs.length := by omega
    subst hi'
    simp (disch := omega)
    refine ret_of ?_
    simpa using h
theorem near_does (s : Rng) (m : Nat) (M : Mem) (R : Value → Mem → Prop) (hs : SrcR M s) (hm : m ≤ 1000) (h : ∀ x M', DrR s M M' → R (.int .i64 x) M') : Does Try.prog 135 [.pointer (some ⟨s.b, 0, none⟩), .int .i64 m] M R := by
  refine does_fn tab_ok Try.func135 rfl (by kernel_rfl) (by kernel_rfl) Try.ntmps135 Try.results135 rfl ?_
  simp (disch := omega)
  refine nx_does s 14 _ _ hs ?_
  intro x M1 _ hx d1
  by_cases h0 : x = 0
  · simp (disch := omega) [h0]
    intro b hb
    dsimp only
    have r := rd_fresh d1.src hb (c := 4) (n := 4) (w := true) (xs := ints [-1, (m : Int) + 1, 1099511627776, -4611686018427387904]) rfl (Nat.le_refl 4)
    simp (disch := omega)
    refine pick_does s _ [-1, (m : Int) + 1, 1099511627776, -4611686018427387904] _ _ (d1.src.sub ((Sub.refl M1).put hb _)) r (by simp) (by simp) ?_
    intro z _ M2 d2
    simp (disch := omega)
    exact ret_of (h z _ ((d1.trans (DrR.sub d1.src ((Sub.refl M1).put hb _))).trans d2))
  · simp (disch := omega) [h0]
    refine nx_does s _ _ _ d1.src ?_
    intro y M2 _ _ d2
    simp (disch := omega)
    exact ret_of (h y _ (d1.trans d2))
end Go.Proofs.Ytbefijbmgmbphaa

/- Merged: C56 C49 C74. -/
import Derived.Test.YthpcojnpiggaiaaGreatC46
import Derived.Test.YthpcojnpiggaiaaGreatCB
/-! Draws: small words, damaged words, patterns; words and patterns. -/
namespace Go.Proofs.YthpcojnpiggaiaaGreat
open Go
set_option linter.unusedSimpArgs false
set_option linter.unusedVariables false

def signs10 : List (List UInt8) := [[97], [98], [99], [101], [102], [65], [32], [44], [48], [10]]
theorem signs10_len : signs10.length = 10 := nr rfl
theorem signs10_in : ∀ l ∈ signs10, l.length = 1 := by decide
theorem signs10_eq : [str [97], str [98], str [99], str [101], str [102], str [65], str [32], str [44], str [48], str [10]] = strs signs10 := nr rfl
def pats10 : List (List UInt8) := [[65, 65], [65, 66, 65], [65, 65, 65], [65, 66, 65, 66], [65, 66, 66, 65], [65, 66, 65, 67, 65, 66, 65], [65, 65, 66, 66], [65, 66, 67, 65, 66], [65, 66, 65, 67], [65, 66, 67, 66, 65]]
/-- Texts of at most eight of the letters A, B, C. -/
def PatOk (p : List UInt8) : Prop := p.length ≤ 8 ∧ ∀ u ∈ p, 65 ≤ u.toNat ∧ u.toNat ≤ 67
theorem pats10_len : pats10.length = 10 := nr rfl
theorem pats10_in : ∀ l ∈ pats10, PatOk l := by
  intro l hl
  have h : ∀ l ∈ pats10, l.length ≤ 8 ∧ l.all (fun u => decide (65 ≤ u.toNat ∧ u.toNat ≤ 67)) = true := by decide
  obtain ⟨h1, h2⟩ := h l hl
  exact ⟨h1, fun u hu => of_decide_eq_true (List.all_eq_true.1 h2 u hu)⟩
theorem pats10_eq : [str [65, 65], str [65, 66, 65], str [65, 65, 65], str [65, 66, 65, 66], str [65, 66, 66, 65], str [65, 66, 65, 67, 65, 66, 65], str [65, 65, 66, 66], str [65, 66, 67, 65, 66], str [65, 66, 65, 67], str [65, 66, 67, 66, 65]] = strs pats10 := nr rfl
def vars3 : List (List UInt8) := [[65], [66], [67]]
theorem vars3_len : vars3.length = 3 := nr rfl
theorem vars3_in : ∀ l ∈ vars3, ∃ u : UInt8, l = [u] ∧ 65 ≤ u.toNat ∧ u.toNat ≤ 67 := by
  intro l hl
  simp only [vars3, List.mem_cons, List.not_mem_nil, or_false] at hl
  rcases hl with rfl | rfl | rfl
  · exact ⟨65, rfl, by decide, by decide⟩
  · exact ⟨66, rfl, by decide, by decide⟩
  · exact ⟨67, rfl, by decide, by decide⟩
theorem vars3_eq : [str [65], str [66], str [67]] = strs vars3 := nr rfl
theorem small_does (s : Rng) (M : Mem) (R : Value → Mem → Prop) (hs : SrcR M s) (h : ∀ w M', (w : List UInt8).length ≤ 10 → DrR s M M' → R (str w) M') : Does Tryz.prog 107 [.pointer (some ⟨s.b, 0, none⟩)] M R := by
  refine does_fn tab_ok Tryz.func107 rfl (by kernel_rfl) (by kernel_rfl) Tryz.ntmps107 Tryz.results107 rfl ?_
  simp (disch := omega)
  refine nx_does s 11 _ _ hs ?_
  intro x M1 _ hx d1
  have hx := hx (by omega)
  simp (disch := omega)
  intro bn hbn
  simp (disch := omega)
  have r5 := rd_fresh d1.src (w := true) (xs := ints [1, 2, 2, 2, 3, 5]) (n := 6) (c := 6) hbn rfl (Nat.le_refl 6)
  have d2 : DrR s M (M1.put bn (.cells true (ints [1, 2, 2, 2, 3, 5]) 6)) := d1.trans (DrR.sub d1.src ((Sub.refl _).put hbn _))
  refine pick_does s _ [1, 2, 2, 2, 3, 5] _ _ d2.src r5 (by simp) (by simp) ?_
  intro z hz M3 d3
  have hz : z ≤ 5 := by
    simp only [List.mem_cons, List.not_mem_nil, or_false] at hz
    omega
  simp (disch := omega)
  refine drawOf_does s x z _ _ d3.src (by omega) (by omega) ?_
  intro w M4 hw _ d4
  simp (disch := omega)
  exact ret_of (h w _ (by omega) ((d2.trans d3).trans d4))
theorem damage_does (s : Rng) (t : List UInt8) (M : Mem) (R : Value → Mem → Prop) (hs : SrcR M s) (ht : t.length ≤ 100000) (h : ∀ w M', (w : List UInt8).length ≤ t.length + 1 → DrR s M M' → R (str w) M') : Does Tryz.prog 108 [.pointer (some ⟨s.b, 0, none⟩), str t] M R := by
  refine does_fn tab_ok Tryz.func108 rfl (by kernel_rfl) (by kernel_rfl) Tryz.ntmps108 Tryz.results108 rfl ?_
  simp (disch := omega) [signs10_eq, signs10_len]
  intro bn hbn
  simp (disch := omega) [signs10_len]
  have kn : (M.put bn (.cells true (strs signs10) 10)) bn = some (.cells true (strs signs10) 10) := put_same _ _ _
  have nb : bn ≠ s.b := by rintro rfl; exact hs.told hbn
  have d2 : DrR s M (M.put bn (.cells true (strs signs10) 10)) := DrR.sub hs ((Sub.refl _).put hbn _)
  generalize M.put bn (.cells true (strs signs10) 10) = M2 at *
  refine nx_does s 10 _ _ d2.src ?_
  intro y M3 _ hy d3
  have hy := hy (by omega)
  obtain ⟨j, rfl⟩ : ∃ j : Nat, y = j := ⟨y.toNat, by omega⟩
  have hj : j < signs10.length := by rw [signs10_len]; omega
  have gl := get_of (d3.at nb kn) j
  rw [strs_get, List.getElem?_eq_getElem hj, Option.map_some] at gl
  have hl1 := signs10_in _ (List.getElem_mem hj)
  generalize signs10[j] = l at *
  simp (disch := omega) [gl]
  by_cases h0 : t.length = 0
  · simp (disch := omega) [h0]
    exact ret_of (h l _ (by omega) (d2.trans d3))
  · have h0' : ¬ (t.length : Int) = 0 := by omega
    simp (disch := omega) [h0']
    refine nx_does s _ _ _ d3.src ?_
    intro k M4 _ hk d4
    have hk := hk (by omega)
    obtain ⟨k, rfl⟩ : ∃ i : Nat, k = i := ⟨k.toNat, by omega⟩
    simp (disch := omega)
    refine nx_does s 3 _ _ d4.src ?_
    intro z M5 _ hz d5
    have hz := hz (by omega)
    have dd := ((d2.trans d3).trans d4).trans d5
    by_cases z0 : z = 0
    · simp (disch := omega) [z0]
      refine draw_to tab_ok (by kernel_rfl) (by kernel_rfl) (by rfl) ?_
      simp (disch := omega)
      refine ret_of (h _ _ ?_ dd)
      simp only [List.length_append, List.length_take, List.length_drop]
      omega
    · by_cases z1 : z = 1
      · simp (disch := omega) [z1]
        refine draw_to tab_ok (by kernel_rfl) (by kernel_rfl) (by rfl) ?_
        simp (disch := omega)
        refine ret_of (h _ _ ?_ dd)
        simp only [List.length_append, List.length_take, List.length_drop]
        omega
      · simp (disch := omega) [z0, z1]
        refine draw_to tab_ok (by kernel_rfl) (by kernel_rfl) (by rfl) ?_
        simp (disch := omega)
        refine ret_of (h _ _ ?_ dd)
        simp only [List.length_append, List.length_take, List.length_drop]
        omega
theorem bad_does (s : Rng) (t : List UInt8) (M : Mem) (R : Value → Mem → Prop) (hs : SrcR M s) (ht : t.length ≤ 900) (h : ∀ w M', (w : List UInt8).length ≤ t.length + 100 → DrR s M M' → R (str w) M') : Does Tryz.prog 55 [.pointer (some ⟨s.b, 0, none⟩), str t] M R := by
  refine does_fn tab_ok Tryz.func55 rfl (by kernel_rfl) (by kernel_rfl) Tryz.ntmps55 Tryz.results55 rfl ?_
  simp (disch := omega)
  refine nx_does s 50 _ _ hs ?_
  intro x M1 _ hx d1
  by_cases x0 : x = 0
  · simp (disch := omega) [x0]
    refine ret_of (h _ _ ?_ d1)
    rw [List.length_append, List.length_singleton]; omega
  · by_cases x1 : x = 1
    · simp (disch := omega) [x1]
      refine damage_does s t _ _ d1.src (by omega) ?_
      intro w M2 hw d2
      simp (disch := omega)
      exact ret_of (h w _ (by omega) (d1.trans d2))
    · by_cases x2 : x = 2
      · simp (disch := omega) [x2]
        refine loop_to tab_ok [1, 18, 19, 20, 21, 22] (fun u : List UInt8 => [(1, str u)]) (fun u M' => M1 = M' ∧ u.length ≤ t.length + 100 ∧ (t.length ≤ u.length)) (fun u => 62 - u.length) t (by kernel_rfl) (by simp (disch := omega)) ⟨rfl, by omega, by omega⟩ ?_
        rintro u M' g ⟨rfl, hu, hu2⟩
        by_cases hlt : u.length ≤ 60
        · simp (disch := omega)
          refine Rnd.mk' (u ++ [97, 98]) (by rw [List.length_append]; simp only [List.length_cons, List.length_nil]; omega) (by (repeat (first | exact km | refine kp rfl ?_ | refine km' rfl ?_))) (by simp (disch := omega)) ⟨rfl, by rw [List.length_append]; simp only [List.length_cons, List.length_nil]; omega, by rw [List.length_append]; omega⟩
        · simp (disch := omega)
          exact ret_of (h u _ hu d1)
      · simp (disch := omega) [x0, x1, x2]
        exact ret_of (h t _ (by omega) d1)
end Go.Proofs.YthpcojnpiggaiaaGreat
/-! Contracts of the laws' help: equal lists of lists, sums of numbers; draws of numbers near a range. -/
namespace Go.Proofs.YthpcojnpiggaiaaGreat
open Go
set_option linter.unusedSimpArgs false
set_option linter.unusedVariables false

theorem near_does (s : Rng) (m : Nat) (M : Mem) (R : Value → Mem → Prop) (hs : SrcR M s) (hm : m ≤ 1000) (h : ∀ x M', DrR s M M' → R (.int .i64 x) M') : Does Tryz.prog 93 [.pointer (some ⟨s.b, 0, none⟩), .int .i64 m] M R := by
  refine does_fn tab_ok Tryz.func93 rfl (by kernel_rfl) (by kernel_rfl) Tryz.ntmps93 Tryz.results93 rfl ?_
  simp (disch := omega)
  refine nx_does s 14 _ _ hs ?_
  intro x M1 _ hx d1
  by_cases h0 : x = 0
  · simp (disch := omega) [h0]
    intro b hb
    dsimp only
    have r := rd_fresh d1.src hb (c := 4) (n := 4) (w := true) (xs := ints [-1, (m : Int) + 1, 1099511627776, -4611686018427387904]) rfl (Nat.le_refl 4)
    simp (disch := omega)
    refine pick_does s _ [-1, (m : Int) + 1, 1099511627776, -4611686018427387904] _ _ (d1.src.sub ((Sub.refl M1).put hb _)) r (by simp) (by simp) ?_
    intro z _ M2 d2
    simp (disch := omega)
    exact ret_of (h z _ ((d1.trans (DrR.sub d1.src ((Sub.refl M1).put hb _))).trans d2))
  · simp (disch := omega) [h0]
    refine nx_does s _ _ _ d1.src ?_
    intro y M2 _ _ d2
    simp (disch := omega)
    exact ret_of (h y _ (d1.trans d2))
end Go.Proofs.YthpcojnpiggaiaaGreat
/-! Draws: numbers near a range with their bounds; patterns and numbers. -/
namespace Go.Proofs.YthpcojnpiggaiaaGreat
open Go
set_option linter.unusedSimpArgs false
set_option linter.unusedVariables false

/-- Numbers that a draw near a range comes to. -/
def NearOk (x : Int) : Prop := -4611686018427387904 ≤ x ∧ x ≤ 1099511627776
theorem near2_does (s : Rng) (m : Nat) (M : Mem) (R : Value → Mem → Prop) (hs : SrcR M s) (hm : m ≤ 1000000) (h : ∀ x M', NearOk x → DrR s M M' → R (.int .i64 x) M') : Does Tryz.prog 93 [.pointer (some ⟨s.b, 0, none⟩), .int .i64 m] M R := by
  refine does_fn tab_ok Tryz.func93 rfl (by kernel_rfl) (by kernel_rfl) Tryz.ntmps93 Tryz.results93 rfl ?_
  simp (disch := omega)
  refine nx_does s 14 _ _ hs ?_
  intro x M1 _ hx d1
  by_cases h0 : x = 0
  · simp (disch := omega) [h0]
    intro b hb
    dsimp only
    have r := rd_fresh d1.src hb (c := 4) (n := 4) (w := true) (xs := ints [-1, (m : Int) + 1, 1099511627776, -4611686018427387904]) rfl (Nat.le_refl 4)
    simp (disch := omega)
    refine pick_does s _ [-1, (m : Int) + 1, 1099511627776, -4611686018427387904] _ _ (d1.src.sub ((Sub.refl M1).put hb _)) r (by simp) (by simp) ?_
    intro z hz M2 d2
    simp (disch := omega)
    refine ret_of (h z _ ?_ ((d1.trans (DrR.sub d1.src ((Sub.refl M1).put hb _))).trans d2))
    simp only [List.mem_cons, List.not_mem_nil, or_false] at hz
    unfold NearOk
    omega
  · simp (disch := omega) [h0]
    refine nx_does s _ _ _ d1.src ?_
    intro y M2 _ hy d2
    have hy := hy (by omega)
    simp (disch := omega)
    exact ret_of (h y _ ⟨by omega, by omega⟩ (d1.trans d2))
/-- A number out of a list of numbers that was just laid. -/
theorem pickN_does (s : Rng) (b : Nat) (n : Nat) (zs : List Int) (M0 M : Mem) (R : Value → Mem → Prop) (hs : SrcR M0 s) (hb : M0 b = none) (hM : M = M0.put b (.cells true (ints zs) n)) (hn : zs.length = n) (h1 : 1 ≤ zs.length) (hl : zs.length ≤ 1000)
    (h : ∀ z ∈ zs, ∀ M', DrR s M0 M' → R (.int .i64 z) M') : Does Tryz.prog 64 [.pointer (some ⟨s.b, 0, none⟩), .slice (some ⟨b, 0, none⟩) n n] M R := by
  subst hM
  refine pick_does s _ zs _ _ (hs.sub ((Sub.refl _).put hb _)) (rd_fresh hs hb (by rw [ints_length]; exact hn) (Nat.le_refl n)) h1 hl ?_
  intro z hz M' d
  exact h z hz M' ((DrR.sub hs ((Sub.refl _).put hb _)).trans d)
end Go.Proofs.YthpcojnpiggaiaaGreat

/- Draws: a morphism and a number; a morphism and two numbers. -/
import Derived.Test.YtbefijbmgmbphaaC49
namespace Go.Proofs.Ytbefijbmgmbphaa
open Go
set_option linter.unusedSimpArgs false
set_option linter.unusedVariables false

/-- A drawn morphism: its words lie in memory of their own. -/
def MorGot (M M' : Mem) (v : Value) (ws : List (List UInt8)) : Prop := ∃ D : Mem, (∀ i, M i ≠ none → D i = none) ∧ Rd D v (strs ws) ∧ Sub D M' ∧ ws.length ≤ 200 ∧ ∀ w ∈ ws, w.length ≤ 100
theorem told_sub {M N : Mem} (h : Sub M N) {i : Nat} (hi : M i ≠ none) : N i ≠ none := by
  cases e : M i with
  | none => exact absurd e hi
  | some B => rw [h _ _ e]; intro q; cases q
theorem num_does (v : Value) (xs : List UInt8) (M : Mem) (R : Value → Mem → Prop) (hv : Rd M v (bytesV xs)) (hl : xs.length ≤ 4096) (h : ∀ v' ws (x : Int) M', Sub M M' → MorGot M M' v' ws → R (.tuple #[.agg #[v'], .int .i64 x]) M') : Does Try.prog 133 [v] M R := by
  refine does_fn tab_ok Try.func133 rfl (by kernel_rfl) (by kernel_rfl) Try.ntmps133 Try.results133 rfl ?_
  simp (disch := omega)
  intro b2 hb2
  have s0 : Sub M (M.put b2 (.cells true [.slice none 0 0] 1)) := (Sub.refl M).put hb2 _
  have k2 : (M.put b2 (.cells true [.slice none 0 0] 1)) b2 = some (.cells true [.slice none 0 0] 1) := put_same _ _ _
  simp (disch := omega)
  generalize M.put b2 (.cells true [.slice none 0 0] 1) = M0 at *
  refine from_does v xs _ _ (hv.sub s0) hl ?_
  intro s M1 hs1 s1 hsrc
  have hne : b2 ≠ s.b := by rintro rfl; rw [hs1] at k2; cases k2
  simp (disch := omega)
  refine drawM_does s _ _ hsrc ?_
  intro v' ws D M2 hD hv' hD2 d2 h200 h100
  have hMs : M s.b = none := none_of s0 hs1
  have k2' := d2.at hne (s1 _ _ k2)
  have hb2D : D b2 = none := hD b2 (by rw [s1 _ _ k2]; intro q; cases q)
  have hDs : D s.b = none := hD s.b hsrc.told
  have hkM : Sub M M2 := d2.keep M hMs (s0.trans s1)
  have hfin : ∀ (z : Int) M', DrR s M2 M' → R (.tuple #[.agg #[v'], .int .i64 z]) (M'.put b2 (.cells true [v'] 1)) := by
    intro z M' d
    refine h v' ws z _ ?_ ⟨D, fun i hi => hD i (told_sub (s0.trans s1) hi), hv', ?_, h200, h100⟩
    · intro j B hj
      have e : j ≠ b2 := by rintro rfl; rw [hb2] at hj; cases hj
      rw [put_ne _ _ e]
      exact d.keep M hMs hkM _ _ hj
    · intro j B hj
      have e : j ≠ b2 := by rintro rfl; rw [hb2D] at hj; cases hj
      rw [put_ne _ _ e]
      exact d.keep D hDs hD2 _ _ hj
  obtain ⟨a, c, rfl, _⟩ := hv'.opened
  rw [strs_length] at hfin ⊢
  obtain ⟨L, hL⟩ : ∃ L, L = ws.length := ⟨_, rfl⟩
  rw [← hL] at hfin ⊢
  simp (disch := omega)
  intro b5 hb5
  have hne5 : b5 ≠ s.b := by rintro rfl; exact d2.src.told hb5
  have hne52 : b2 ≠ b5 := by rintro rfl; rw [k2'] at hb5; cases hb5
  have q5 : (M2.put b5 (.cells true [.slice a L c] 1)) b5 = some (.cells true [.slice a L c] 1) := put_same _ _ _
  have q2 : (M2.put b5 (.cells true [.slice a L c] 1)) b2 = some (.cells true [.slice none 0 0] 1) := by rw [put_ne _ _ hne52]; exact k2'
  have d3 := DrR.sub d2.src ((Sub.refl M2).put hb5 (.cells true [.slice a L c] 1))
  simp (disch := omega)
  generalize M2.put b5 (.cells true [.slice a L c] 1) = M3 at *
  refine plays (lights [1, 2] (.alt 0 1 (.one 3 2 (.one 4 1 (.one 5 2 (.one 6 2 (lights [7] .fin))))) (.one 3 2 (.alt 0 1 (.one 4 1 (.one 5 2 (.one 6 2 (lights [7] .fin)))) (.one 4 1 (.alt 0 1 (.one 5 2 (.one 6 2 (lights [7] .fin))) (.one 5 2 (.one 0 1 (.one 6 2 (lights [7] .fin)))))))))) tab_ok (by kernel_rfl) (by kernel_rfl) (by rfl) ?_
  simp (disch := omega) [vT_alt, get_of q5, sub_of q5, q5]
  refine ⟨?_, ?_⟩
  · skip
    refine near_does s 4 _ _ d3.src (by omega) ?_
    intro x N1 e1
    have p5 := e1.at hne5 q5
    simp (disch := omega) [vT_alt, get_of p5, sub_of p5, p5]
    intro b7 hb7
    have sb := (Sub.refl N1).put hb7 (.cells true (ints [0, 0, 0, 1, x]) 5)
    refine ⟨sb, ?_⟩
    have r7 := rd_fresh e1.src hb7 (c := 5) (n := 5) (w := true) (xs := ints [0, 0, 0, 1, x]) rfl (Nat.le_refl 5)
    have u5 := sb _ _ p5
    simp only [ints, List.map_cons, List.map_nil] at u5
    simp (disch := omega) [vT_alt, get_of u5, sub_of u5, u5]
    refine pick_does s _ [0, 0, 0, 1, x] _ _ (e1.src.sub sb) r7 (by simp) (by simp) ?_
    intro z _ N2 e2
    have e3 := ((d3.trans e1).trans (DrR.sub e1.src sb)).trans e2
    have p5 := e2.at hne5 (sb _ _ (e1.at hne5 q5))
    have p2 := e2.at hne (sb _ _ (e1.at hne q2))
    simp (disch := omega) [vT_alt, get_of p5, sub_of p5, p5, p2, set_is]
    exact ret_of (hfin z _ e3)
  · skip
    refine near_does s 4 _ _ d3.src (by omega) ?_
    intro x N1 e1
    have p5 := e1.at hne5 q5
    simp (disch := omega) [vT_alt, get_of p5, sub_of p5, p5]
    refine ⟨?_, ?_⟩
    · skip
      intro b7 hb7
      have sb := (Sub.refl N1).put hb7 (.cells true (ints [0, 0, 0, 1, x]) 5)
      refine ⟨sb, ?_⟩
      have r7 := rd_fresh e1.src hb7 (c := 5) (n := 5) (w := true) (xs := ints [0, 0, 0, 1, x]) rfl (Nat.le_refl 5)
      have u5 := sb _ _ p5
      simp only [ints, List.map_cons, List.map_nil] at u5
      simp (disch := omega) [vT_alt, get_of u5, sub_of u5, u5]
      refine pick_does s _ [0, 0, 0, 1, x] _ _ (e1.src.sub sb) r7 (by simp) (by simp) ?_
      intro z _ N2 e2
      have e3 := ((d3.trans e1).trans (DrR.sub e1.src sb)).trans e2
      have p5 := e2.at hne5 (sb _ _ (e1.at hne5 q5))
      have p2 := e2.at hne (sb _ _ (e1.at hne q2))
      simp (disch := omega) [vT_alt, get_of p5, sub_of p5, p5, p2, set_is]
      exact ret_of (hfin z _ e3)
    · skip
      intro b7 hb7
      have sb := (Sub.refl N1).put hb7 (.cells true (ints [0, 0, 0, 1, x]) 5)
      refine ⟨sb, ?_⟩
      have r7 := rd_fresh e1.src hb7 (c := 5) (n := 5) (w := true) (xs := ints [0, 0, 0, 1, x]) rfl (Nat.le_refl 5)
      have u5 := sb _ _ p5
      simp only [ints, List.map_cons, List.map_nil] at u5
      simp (disch := omega) [vT_alt, get_of u5, sub_of u5, u5]
      refine ⟨?_, ?_⟩
      · skip
        refine pick_does s _ [0, 0, 0, 1, x] _ _ (e1.src.sub sb) r7 (by simp) (by simp) ?_
        intro z _ N2 e2
        have e3 := ((d3.trans e1).trans (DrR.sub e1.src sb)).trans e2
        have p5 := e2.at hne5 (sb _ _ (e1.at hne5 q5))
        have p2 := e2.at hne (sb _ _ (e1.at hne q2))
        simp (disch := omega) [vT_alt, get_of p5, sub_of p5, p5, p2, set_is]
        exact ret_of (hfin z _ e3)
      · skip
        refine pick_does s _ [0, 0, 0, 1, x] _ _ (e1.src.sub sb) r7 (by simp) (by simp) ?_
        intro z _ N2 e2
        have e3 := ((d3.trans e1).trans (DrR.sub e1.src sb)).trans e2
        have p5 := e2.at hne5 (sb _ _ (e1.at hne5 q5))
        have p2 := e2.at hne (sb _ _ (e1.at hne q2))
        simp (disch := omega) [vT_alt, get_of p5, sub_of p5, p5, p2, set_is]
        exact ret_of (hfin z _ e3)
theorem drawGW_does (v : Value) (xs : List UInt8) (M : Mem) (R : Value → Mem → Prop) (hv : Rd M v (bytesV xs)) (hl : xs.length ≤ 4096) (h : ∀ v' ws (x y : Int) M', Sub M M' → MorGot M M' v' ws → R (.tuple #[.agg #[v'], .int .i64 x, .int .i64 y]) M') : Does Try.prog 53 [v] M R := by
  refine does_fn tab_ok Try.func53 rfl (by kernel_rfl) (by kernel_rfl) Try.ntmps53 Try.results53 rfl ?_
  simp (disch := omega)
  intro b2 hb2
  have s0 : Sub M (M.put b2 (.cells true [.slice none 0 0] 1)) := (Sub.refl M).put hb2 _
  have k2 : (M.put b2 (.cells true [.slice none 0 0] 1)) b2 = some (.cells true [.slice none 0 0] 1) := put_same _ _ _
  simp (disch := omega)
  generalize M.put b2 (.cells true [.slice none 0 0] 1) = M0 at *
  refine from_does v xs _ _ (hv.sub s0) hl ?_
  intro s M1 hs1 s1 hsrc
  have hne : b2 ≠ s.b := by rintro rfl; rw [hs1] at k2; cases k2
  simp (disch := omega)
  refine num_does v xs _ _ (hv.sub (s0.trans s1)) hl ?_
  rintro v' ws num M2 hM2 ⟨D, hD, hv', hD2, h200, h100⟩
  have hMs : M s.b = none := none_of s0 hs1
  have k2' := hM2 _ _ (s1 _ _ k2)
  have hb2D : D b2 = none := hD b2 (by rw [s1 _ _ k2]; intro q; cases q)
  have hDs : D s.b = none := hD s.b hsrc.told
  have hkM : Sub M M2 := (s0.trans s1).trans hM2
  have d2 := DrR.sub hsrc hM2
  have hfin : ∀ (z : Int) M', DrR s M2 M' → R (.tuple #[.agg #[v'], .int .i64 num, .int .i64 z]) (M'.put b2 (.cells true [v'] 1)) := by
    intro z M' d
    refine h v' ws num z _ ?_ ⟨D, fun i hi => hD i (told_sub (s0.trans s1) hi), hv', ?_, h200, h100⟩
    · intro j B hj
      have e : j ≠ b2 := by rintro rfl; rw [hb2] at hj; cases hj
      rw [put_ne _ _ e]
      exact d.keep M hMs hkM _ _ hj
    · intro j B hj
      have e : j ≠ b2 := by rintro rfl; rw [hb2D] at hj; cases hj
      rw [put_ne _ _ e]
      exact d.keep D hDs hD2 _ _ hj
  obtain ⟨a, c, rfl, _⟩ := hv'.opened
  rw [strs_length] at hfin ⊢
  obtain ⟨L, hL⟩ : ∃ L, L = ws.length := ⟨_, rfl⟩
  rw [← hL] at hfin ⊢
  simp (disch := omega)
  intro b5 hb5
  have hne5 : b5 ≠ s.b := by rintro rfl; exact d2.src.told hb5
  have hne52 : b2 ≠ b5 := by rintro rfl; rw [k2'] at hb5; cases hb5
  have q5 : (M2.put b5 (.cells true [.slice a L c] 1)) b5 = some (.cells true [.slice a L c] 1) := put_same _ _ _
  have q2 : (M2.put b5 (.cells true [.slice a L c] 1)) b2 = some (.cells true [.slice none 0 0] 1) := by rw [put_ne _ _ hne52]; exact k2'
  have d3 := DrR.sub d2.src ((Sub.refl M2).put hb5 (.cells true [.slice a L c] 1))
  simp (disch := omega)
  generalize M2.put b5 (.cells true [.slice a L c] 1) = M3 at *
  refine plays (lights [1, 2, 3] (.alt 0 1 (.one 4 2 (.one 5 1 (.one 6 2 (.one 7 2 (lights [8, 9] .fin))))) (.one 4 2 (.alt 0 1 (.one 5 1 (.one 6 2 (.one 7 2 (lights [8, 9] .fin)))) (.one 5 1 (.alt 0 1 (.one 6 2 (.one 7 2 (lights [8, 9] .fin))) (.one 6 2 (.one 0 1 (.one 7 2 (lights [8, 9] .fin)))))))))) tab_ok (by kernel_rfl) (by kernel_rfl) (by rfl) ?_
  simp (disch := omega) [vT_alt, get_of q5, sub_of q5, q5]
  refine ⟨?_, ?_⟩
  · skip
    refine near_does s 60 _ _ d3.src (by omega) ?_
    intro x N1 e1
    have p5 := e1.at hne5 q5
    simp (disch := omega) [vT_alt, get_of p5, sub_of p5, p5]
    intro b7 hb7
    have sb := (Sub.refl N1).put hb7 (.cells true (ints [5, 12, 30, 60, x]) 5)
    refine ⟨sb, ?_⟩
    have r7 := rd_fresh e1.src hb7 (c := 5) (n := 5) (w := true) (xs := ints [5, 12, 30, 60, x]) rfl (Nat.le_refl 5)
    have u5 := sb _ _ p5
    simp only [ints, List.map_cons, List.map_nil] at u5
    simp (disch := omega) [vT_alt, get_of u5, sub_of u5, u5]
    refine pick_does s _ [5, 12, 30, 60, x] _ _ (e1.src.sub sb) r7 (by simp) (by simp) ?_
    intro z _ N2 e2
    have e3 := ((d3.trans e1).trans (DrR.sub e1.src sb)).trans e2
    have p5 := e2.at hne5 (sb _ _ (e1.at hne5 q5))
    have p2 := e2.at hne (sb _ _ (e1.at hne q2))
    simp (disch := omega) [vT_alt, get_of p5, sub_of p5, p5, p2, set_is]
    exact ret_of (hfin z _ e3)
  · skip
    refine near_does s 60 _ _ d3.src (by omega) ?_
    intro x N1 e1
    have p5 := e1.at hne5 q5
    simp (disch := omega) [vT_alt, get_of p5, sub_of p5, p5]
    refine ⟨?_, ?_⟩
    · skip
      intro b7 hb7
      have sb := (Sub.refl N1).put hb7 (.cells true (ints [5, 12, 30, 60, x]) 5)
      refine ⟨sb, ?_⟩
      have r7 := rd_fresh e1.src hb7 (c := 5) (n := 5) (w := true) (xs := ints [5, 12, 30, 60, x]) rfl (Nat.le_refl 5)
      have u5 := sb _ _ p5
      simp only [ints, List.map_cons, List.map_nil] at u5
      simp (disch := omega) [vT_alt, get_of u5, sub_of u5, u5]
      refine pick_does s _ [5, 12, 30, 60, x] _ _ (e1.src.sub sb) r7 (by simp) (by simp) ?_
      intro z _ N2 e2
      have e3 := ((d3.trans e1).trans (DrR.sub e1.src sb)).trans e2
      have p5 := e2.at hne5 (sb _ _ (e1.at hne5 q5))
      have p2 := e2.at hne (sb _ _ (e1.at hne q2))
      simp (disch := omega) [vT_alt, get_of p5, sub_of p5, p5, p2, set_is]
      exact ret_of (hfin z _ e3)
    · skip
      intro b7 hb7
      have sb := (Sub.refl N1).put hb7 (.cells true (ints [5, 12, 30, 60, x]) 5)
      refine ⟨sb, ?_⟩
      have r7 := rd_fresh e1.src hb7 (c := 5) (n := 5) (w := true) (xs := ints [5, 12, 30, 60, x]) rfl (Nat.le_refl 5)
      have u5 := sb _ _ p5
      simp only [ints, List.map_cons, List.map_nil] at u5
      simp (disch := omega) [vT_alt, get_of u5, sub_of u5, u5]
      refine ⟨?_, ?_⟩
      · skip
        refine pick_does s _ [5, 12, 30, 60, x] _ _ (e1.src.sub sb) r7 (by simp) (by simp) ?_
        intro z _ N2 e2
        have e3 := ((d3.trans e1).trans (DrR.sub e1.src sb)).trans e2
        have p5 := e2.at hne5 (sb _ _ (e1.at hne5 q5))
        have p2 := e2.at hne (sb _ _ (e1.at hne q2))
        simp (disch := omega) [vT_alt, get_of p5, sub_of p5, p5, p2, set_is]
        exact ret_of (hfin z _ e3)
      · skip
        refine pick_does s _ [5, 12, 30, 60, x] _ _ (e1.src.sub sb) r7 (by simp) (by simp) ?_
        intro z _ N2 e2
        have e3 := ((d3.trans e1).trans (DrR.sub e1.src sb)).trans e2
        have p5 := e2.at hne5 (sb _ _ (e1.at hne5 q5))
        have p2 := e2.at hne (sb _ _ (e1.at hne q2))
        simp (disch := omega) [vT_alt, get_of p5, sub_of p5, p5, p2, set_is]
        exact ret_of (hfin z _ e3)
theorem drawLA_does (v : Value) (xs : List UInt8) (M : Mem) (R : Value → Mem → Prop) (hv : Rd M v (bytesV xs)) (hl : xs.length ≤ 4096) (h : ∀ v' ws (x y : Int) M', Sub M M' → MorGot M M' v' ws → R (.tuple #[.agg #[v'], .int .i64 x, .int .i64 y]) M') : Does Try.prog 56 [v] M R := by
  refine does_fn tab_ok Try.func56 rfl (by kernel_rfl) (by kernel_rfl) Try.ntmps56 Try.results56 rfl ?_
  simp (disch := omega)
  intro b2 hb2
  have s0 : Sub M (M.put b2 (.cells true [.slice none 0 0] 1)) := (Sub.refl M).put hb2 _
  have k2 : (M.put b2 (.cells true [.slice none 0 0] 1)) b2 = some (.cells true [.slice none 0 0] 1) := put_same _ _ _
  simp (disch := omega)
  generalize M.put b2 (.cells true [.slice none 0 0] 1) = M0 at *
  refine from_does v xs _ _ (hv.sub s0) hl ?_
  intro s M1 hs1 s1 hsrc
  have hne : b2 ≠ s.b := by rintro rfl; rw [hs1] at k2; cases k2
  simp (disch := omega)
  refine num_does v xs _ _ (hv.sub (s0.trans s1)) hl ?_
  rintro v' ws num M2 hM2 ⟨D, hD, hv', hD2, h200, h100⟩
  have hMs : M s.b = none := none_of s0 hs1
  have k2' := hM2 _ _ (s1 _ _ k2)
  have hb2D : D b2 = none := hD b2 (by rw [s1 _ _ k2]; intro q; cases q)
  have hDs : D s.b = none := hD s.b hsrc.told
  have hkM : Sub M M2 := (s0.trans s1).trans hM2
  have d2 := DrR.sub hsrc hM2
  have hfin : ∀ (z : Int) M', DrR s M2 M' → R (.tuple #[.agg #[v'], .int .i64 num, .int .i64 z]) (M'.put b2 (.cells true [v'] 1)) := by
    intro z M' d
    refine h v' ws num z _ ?_ ⟨D, fun i hi => hD i (told_sub (s0.trans s1) hi), hv', ?_, h200, h100⟩
    · intro j B hj
      have e : j ≠ b2 := by rintro rfl; rw [hb2] at hj; cases hj
      rw [put_ne _ _ e]
      exact d.keep M hMs hkM _ _ hj
    · intro j B hj
      have e : j ≠ b2 := by rintro rfl; rw [hb2D] at hj; cases hj
      rw [put_ne _ _ e]
      exact d.keep D hDs hD2 _ _ hj
  obtain ⟨a, c, rfl, _⟩ := hv'.opened
  rw [strs_length] at hfin ⊢
  obtain ⟨L, hL⟩ : ∃ L, L = ws.length := ⟨_, rfl⟩
  rw [← hL] at hfin ⊢
  simp (disch := omega)
  intro b5 hb5
  have hne5 : b5 ≠ s.b := by rintro rfl; exact d2.src.told hb5
  have hne52 : b2 ≠ b5 := by rintro rfl; rw [k2'] at hb5; cases hb5
  have q5 : (M2.put b5 (.cells true [.slice a L c] 1)) b5 = some (.cells true [.slice a L c] 1) := put_same _ _ _
  have q2 : (M2.put b5 (.cells true [.slice a L c] 1)) b2 = some (.cells true [.slice none 0 0] 1) := by rw [put_ne _ _ hne52]; exact k2'
  have d3 := DrR.sub d2.src ((Sub.refl M2).put hb5 (.cells true [.slice a L c] 1))
  simp (disch := omega)
  generalize M2.put b5 (.cells true [.slice a L c] 1) = M3 at *
  refine plays (lights [1, 2, 3] (.alt 0 1 (.one 4 2 (.one 5 1 (.one 6 2 (.one 7 2 (lights [8, 9] .fin))))) (.one 4 2 (.alt 0 1 (.one 5 1 (.one 6 2 (.one 7 2 (lights [8, 9] .fin)))) (.one 5 1 (.alt 0 1 (.one 6 2 (.one 7 2 (lights [8, 9] .fin))) (.one 6 2 (.one 0 1 (.one 7 2 (lights [8, 9] .fin)))))))))) tab_ok (by kernel_rfl) (by kernel_rfl) (by rfl) ?_
  simp (disch := omega) [vT_alt, get_of q5, sub_of q5, q5]
  refine ⟨?_, ?_⟩
  · skip
    refine near_does s 20 _ _ d3.src (by omega) ?_
    intro x N1 e1
    have p5 := e1.at hne5 q5
    simp (disch := omega) [vT_alt, get_of p5, sub_of p5, p5]
    intro b7 hb7
    have sb := (Sub.refl N1).put hb7 (.cells true (ints [0, 3, 8, 20, x]) 5)
    refine ⟨sb, ?_⟩
    have r7 := rd_fresh e1.src hb7 (c := 5) (n := 5) (w := true) (xs := ints [0, 3, 8, 20, x]) rfl (Nat.le_refl 5)
    have u5 := sb _ _ p5
    simp only [ints, List.map_cons, List.map_nil] at u5
    simp (disch := omega) [vT_alt, get_of u5, sub_of u5, u5]
    refine pick_does s _ [0, 3, 8, 20, x] _ _ (e1.src.sub sb) r7 (by simp) (by simp) ?_
    intro z _ N2 e2
    have e3 := ((d3.trans e1).trans (DrR.sub e1.src sb)).trans e2
    have p5 := e2.at hne5 (sb _ _ (e1.at hne5 q5))
    have p2 := e2.at hne (sb _ _ (e1.at hne q2))
    simp (disch := omega) [vT_alt, get_of p5, sub_of p5, p5, p2, set_is]
    exact ret_of (hfin z _ e3)
  · skip
    refine near_does s 20 _ _ d3.src (by omega) ?_
    intro x N1 e1
    have p5 := e1.at hne5 q5
    simp (disch := omega) [vT_alt, get_of p5, sub_of p5, p5]
    refine ⟨?_, ?_⟩
    · skip
      intro b7 hb7
      have sb := (Sub.refl N1).put hb7 (.cells true (ints [0, 3, 8, 20, x]) 5)
      refine ⟨sb, ?_⟩
      have r7 := rd_fresh e1.src hb7 (c := 5) (n := 5) (w := true) (xs := ints [0, 3, 8, 20, x]) rfl (Nat.le_refl 5)
      have u5 := sb _ _ p5
      simp only [ints, List.map_cons, List.map_nil] at u5
      simp (disch := omega) [vT_alt, get_of u5, sub_of u5, u5]
      refine pick_does s _ [0, 3, 8, 20, x] _ _ (e1.src.sub sb) r7 (by simp) (by simp) ?_
      intro z _ N2 e2
      have e3 := ((d3.trans e1).trans (DrR.sub e1.src sb)).trans e2
      have p5 := e2.at hne5 (sb _ _ (e1.at hne5 q5))
      have p2 := e2.at hne (sb _ _ (e1.at hne q2))
      simp (disch := omega) [vT_alt, get_of p5, sub_of p5, p5, p2, set_is]
      exact ret_of (hfin z _ e3)
    · skip
      intro b7 hb7
      have sb := (Sub.refl N1).put hb7 (.cells true (ints [0, 3, 8, 20, x]) 5)
      refine ⟨sb, ?_⟩
      have r7 := rd_fresh e1.src hb7 (c := 5) (n := 5) (w := true) (xs := ints [0, 3, 8, 20, x]) rfl (Nat.le_refl 5)
      have u5 := sb _ _ p5
      simp only [ints, List.map_cons, List.map_nil] at u5
      simp (disch := omega) [vT_alt, get_of u5, sub_of u5, u5]
      refine ⟨?_, ?_⟩
      · skip
        refine pick_does s _ [0, 3, 8, 20, x] _ _ (e1.src.sub sb) r7 (by simp) (by simp) ?_
        intro z _ N2 e2
        have e3 := ((d3.trans e1).trans (DrR.sub e1.src sb)).trans e2
        have p5 := e2.at hne5 (sb _ _ (e1.at hne5 q5))
        have p2 := e2.at hne (sb _ _ (e1.at hne q2))
        simp (disch := omega) [vT_alt, get_of p5, sub_of p5, p5, p2, set_is]
        exact ret_of (hfin z _ e3)
      · skip
        refine pick_does s _ [0, 3, 8, 20, x] _ _ (e1.src.sub sb) r7 (by simp) (by simp) ?_
        intro z _ N2 e2
        have e3 := ((d3.trans e1).trans (DrR.sub e1.src sb)).trans e2
        have p5 := e2.at hne5 (sb _ _ (e1.at hne5 q5))
        have p2 := e2.at hne (sb _ _ (e1.at hne q2))
        simp (disch := omega) [vT_alt, get_of p5, sub_of p5, p5, p2, set_is]
        exact ret_of (hfin z _ e3)
end Go.Proofs.Ytbefijbmgmbphaa

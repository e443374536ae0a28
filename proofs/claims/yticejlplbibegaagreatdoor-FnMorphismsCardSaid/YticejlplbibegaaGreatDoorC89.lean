/- Draws: a morphism and a word; two morphisms; a text of a morphism. -/
import Derived.Test.YticejlplbibegaaGreatDoorC50
import Derived.Test.YticejlplbibegaaGreatDoorC66
import Derived.Test.YticejlplbibegaaGreatDoorC28
namespace Go.Proofs.YticejlplbibegaaGreatDoor
open Go
set_option linter.unusedSimpArgs false
set_option linter.unusedVariables false

theorem text_does (v : Value) (ws : List (List UInt8)) (M : Mem) (R : Value → Mem → Prop) (hv : Rd M v (strs ws)) (hn : ws.length ≤ 200) (hok : ∀ w ∈ ws, w.length ≤ 100) (h : ∀ M', Sub M M' → R (str (txt ws)) M') : Does Tryz.prog 74 [.agg #[v]] M R := by
  refine does_fn tab_ok Tryz.func74 rfl (by kernel_rfl) (by kernel_rfl) Tryz.ntmps74 Tryz.results74 rfl ?_
  obtain ⟨a, c, rfl, ha⟩ := hv.opened
  rw [strs_length] at ha hv ⊢
  simp (disch := omega)
  intro b1 hb1
  have hs1 : Sub M (M.put b1 (.cells true [.slice a ws.length c] 1)) := (Sub.refl M).put hb1 _
  have k1 : (M.put b1 (.cells true [.slice a ws.length c] 1)) b1 = some (.cells true [.slice a ws.length c] 1) := put_same _ _ _
  simp (disch := omega)
  generalize M.put b1 (.cells true [.slice a ws.length c] 1) = N at *
  refine loop_to tab_ok [3, 4, 5, 6, 7, 8, 9, 10, 11, 12, 13, 14, 15, 16, 17, 18, 19, 20, 21, 22] (fun i : Nat => [(4, .int .i64 i), (3, str (txt (ws.take i)))]) (fun i M' => M' = N ∧ i ≤ ws.length) (fun i => ws.length - i) 0 (by kernel_rfl) (by simp (disch := omega) [txt]) ⟨rfl, by omega⟩ ?_
  rintro i M' g ⟨rfl, hi⟩
  have hlt0 := txt_len (ws := ws.take i) (n := 100) fun w hw => hok w (List.mem_of_mem_take hw)
  have hti : (ws.take i).length = i := by rw [List.length_take]; omega
  rw [hti] at hlt0
  have hl5 : i * 101 ≤ 200 * 101 := Nat.mul_le_mul (show i ≤ 200 by omega) (Nat.le_refl 101)
  by_cases hlt : i < ws.length
  · rcases ha with h0 | ⟨b, o, rfl, ha⟩
    · omega
    have hg0 := ha i hlt
    rw [strs_get, List.getElem?_eq_getElem hlt] at hg0
    have hg := get_keep hg0 hs1
    have hwo := hok _ (List.getElem_mem hlt)
    by_cases h0 : i = 0
    · subst h0
      have e : txt (ws.take (0 + 1)) = ws[0] := by rw [take_one hlt, txt_one]
      have e0 : txt [] = [] := rfl
      rw [Nat.add_zero] at hg
      simp (disch := omega) [get_of k1, hg, e0]
      exact Rnd.mk' (0 + 1) (by omega) (by (repeat (first | exact km | refine kp rfl ?_ | refine km' rfl ?_))) (by simp (disch := omega) [e]) ⟨rfl, by omega⟩
    · have hpos : (0 : Int) < i := by omega
      have e : txt (ws.take (i + 1)) = txt (ws.take i) ++ [44] ++ ws[i] := by rw [take_snoc ws hlt, txt_snoc _ _ (by omega)]
      simp (disch := omega) [get_of k1, hg, hpos]
      exact Rnd.mk' (i + 1) (by omega) (by (repeat (first | exact km | refine kp rfl ?_ | refine km' rfl ?_))) (by simp (disch := omega) [e]) ⟨rfl, by omega⟩
  · have hi' : i = ws.length := by omega
    subst hi'
    rw [List.take_length]
    simp (disch := omega) [get_of k1]
    exact ret_of (h _ hs1)
theorem with_does (v : Value) (xs : List UInt8) (M : Mem) (R : Value → Mem → Prop) (hv : Rd M v (bytesV xs)) (hl : xs.length ≤ 4096) (h : ∀ v' ws w M', Sub M M' → MorGot M M' v' ws → (w : List UInt8).length ≤ 200 → R (.tuple #[.agg #[v'], str w]) M') : Does Tryz.prog 58 [v] M R := by
  refine does_fn tab_ok Tryz.func58 rfl (by kernel_rfl) (by kernel_rfl) Tryz.ntmps58 Tryz.results58 rfl ?_
  simp (disch := omega)
  intro b2 hb2
  have s0 : Sub M (M.put b2 (.cells true [.slice none 0 0] 1)) := (Sub.refl M).put hb2 _
  have k2 : (M.put b2 (.cells true [.slice none 0 0] 1)) b2 = some (.cells true [.slice none 0 0] 1) := put_same _ _ _
  simp (disch := omega)
  generalize M.put b2 (.cells true [.slice none 0 0] 1) = M0 at *
  refine from_does v xs _ _ (hv.sub s0) hl ?_
  intro s M1 hs1 s1 hsrc
  have hne : b2 ≠ s.b := by rintro rfl; rw [hs1] at k2; cases k2
  simp (disch := omega)
  refine drawMor_does s _ _ hsrc ?_
  intro v' ws D M2 hD hv' hD2 d2 h1 hok
  have hMs : M s.b = none := none_of s0 hs1
  have k2' := d2.at hne (s1 _ _ k2)
  have hDs : D s.b = none := hD s.b hsrc.told
  have hkM : Sub M M2 := d2.keep M hMs (s0.trans s1)
  have hL100 := hok.1
  have hfin : ∀ w N, (w : List UInt8).length ≤ 200 → DrR s M2 N → ∀ v'' ws'' D' M', D' s.b = none → (∀ i, M0 i ≠ none → D' i = none) → Rd D' v'' (strs ws'') → Sub D' M' → DrR s N M' → ws''.length ≤ 200 → (∀ w ∈ ws'', w.length ≤ 100) → R (.tuple #[.agg #[v''], str w]) (M'.put b2 (.cells true [v''] 1)) := by
    intro w N hw d v'' ws'' D' M' hDs' hF hv'' hsub d' h200 h100
    have dt := d.trans d'
    refine h v'' ws'' w _ ?_ ⟨D', fun i hi => hF i (told_sub s0 hi), hv'', ?_, h200, h100⟩ hw
    · intro j B hj
      have e : j ≠ b2 := by rintro rfl; rw [hb2] at hj; cases hj
      rw [put_ne _ _ e]
      exact dt.keep M hMs hkM _ _ hj
    · intro j B hj
      have e : j ≠ b2 := by rintro rfl; rw [hF j (by rw [k2]; intro q; cases q)] at hj; cases hj
      rw [put_ne _ _ e]
      exact hsub _ _ hj
  have hbad : ∀ N, DrR s M2 N → (∀ i, M0 i ≠ none → N i ≠ none) ∧ (∀ i, M0 i ≠ none → D i = none) ∧ Sub D N := by
    intro N d
    refine ⟨fun i hi => d.keepT (d2.keepT (told_sub s1 hi)), fun i hi => hD i (told_sub s1 hi), d.keep D hDs hD2⟩
  obtain ⟨a, c, hve, _⟩ := hv'.opened
  rw [strs_length] at hve
  subst hve
  obtain ⟨L, hL⟩ : ∃ L, L = ws.length := ⟨_, rfl⟩
  rw [← hL] at hv' hL100 ⊢
  simp (disch := omega)
  intro b5 hb5
  have hne5 : b5 ≠ s.b := by rintro rfl; exact d2.src.told hb5
  have hne52 : b2 ≠ b5 := by rintro rfl; rw [k2'] at hb5; cases hb5
  have q5 : (M2.put b5 (.cells true [.slice a L c] 1)) b5 = some (.cells true [.slice a L c] 1) := put_same _ _ _
  have q2 : (M2.put b5 (.cells true [.slice a L c] 1)) b2 = some (.cells true [.slice none 0 0] 1) := by rw [put_ne _ _ hne52]; exact k2'
  have d3 := DrR.sub d2.src ((Sub.refl M2).put hb5 (.cells true [.slice a L c] 1))
  simp (disch := omega)
  generalize M2.put b5 (.cells true [.slice a L c] 1) = M3 at *
  refine plays (lights [0, 1, 2, 6] (.alt 7 1 (lights [8] (.one 3 1 (.one 4 2 (.one 5 2 (.one 9 2 (lights [10] .fin)))))) (.one 3 1 (.alt 7 1 (lights [8] (.one 4 2 (.one 5 2 (.one 9 2 (lights [10] .fin))))) (.one 4 2 (.alt 7 1 (lights [8] (.one 5 2 (.one 9 2 (lights [10] .fin)))) (.one 5 2 (.one 7 1 (lights [8] (.one 9 2 (lights [10] .fin))))))))))) tab_ok (by kernel_rfl) (by kernel_rfl) (by rfl) ?_
  simp (disch := omega) [vT_alt, get_of q5, sub_of q5, q5]
  refine ⟨?_, ?_⟩
  · skip
    intro b7 hb7
    have sb := (Sub.refl M3).put hb7 (.cells true (ints [4, 8, 20]) 3)
    refine ⟨sb, ?_⟩
    have r7 := rd_fresh d3.src hb7 (c := 3) (n := 3) (w := true) (xs := ints [4, 8, 20]) rfl (Nat.le_refl 3)
    have u5 := sb _ _ q5
    have u2 := sb _ _ q2
    have d4 := d3.trans (DrR.sub d3.src sb)
    simp only [ints, List.map_cons, List.map_nil] at u5 u2 d4
    simp (disch := omega) [vT_alt, get_of u5, sub_of u5, u5]
    refine pick_does s _ [4, 8, 20] _ _ (d3.src.sub sb) r7 (by simp) (by simp) ?_
    intro z hz N1 e1
    have hz : 4 ≤ z ∧ z ≤ 20 := by
      simp only [List.mem_cons, List.not_mem_nil, or_false] at hz
      omega
    have p5 := e1.at hne5 u5
    have p2 := e1.at hne u2
    simp (disch := omega) [vT_alt, get_of p5, sub_of p5, p5]
    refine nx_does s z _ _ e1.src ?_
    intro n N2 _ hn e2
    have hn := hn (by omega)
    have t5 := e2.at hne5 p5
    have t2 := e2.at hne p2
    simp (disch := omega) [vT_alt, get_of t5, sub_of t5, t5]
    refine drawOf_does s n L _ _ e2.src (by omega) (by omega) ?_
    intro w N3 hwl _ e3
    have x5 := e3.at hne5 t5
    have x2 := e3.at hne t2
    simp (disch := omega) [vT_alt, get_of x5, sub_of x5, x5]
    refine nx_does s 12 _ _ e3.src ?_
    intro x N4 _ hx e4
    have hx := hx (by omega)
    have y5 := e4.at hne5 x5
    have y2 := e4.at hne x2
    by_cases h0 : x = 0
    · simp (disch := omega) [h0]
      refine spoil_does s _ _ e4.src ?_
      intro w2 N5 hw2 e5
      have z5 := e5.at hne5 y5
      have z2 := e5.at hne y2
      have da := (((d4.trans e1).trans e2).trans e3).trans (e4.trans e5)
      obtain ⟨c1, c2, c3⟩ := hbad _ da
      simp (disch := omega) [get_of z5, sub_of z5, z5]
      refine badMor_does s _ ws D _ (fun i => M0 i ≠ none) _ e5.src c1 c2 hDs hv' c3 h1 hok ?_
      intro v'' ws'' D' M' g1 g2 g3 g4 g5 g6 g7
      have hf := hfin w2 N5 (by omega) da v'' ws'' D' M' g1 g2 g3 g4 g5 g6 g7
      have k2'' := g5.at hne z2
      obtain ⟨a', c', hve, _⟩ := g3.opened
      rw [strs_length] at hve
      subst hve
      simp (disch := omega) [k2'', set_is]
      exact ret_of hf
    · simp (disch := omega) [h0]
      have da := (((d4.trans e1).trans e2).trans e3).trans e4
      obtain ⟨c1, c2, c3⟩ := hbad _ da
      simp (disch := omega) [get_of y5, sub_of y5, y5]
      refine badMor_does s _ ws D _ (fun i => M0 i ≠ none) _ e4.src c1 c2 hDs hv' c3 h1 hok ?_
      intro v'' ws'' D' M' g1 g2 g3 g4 g5 g6 g7
      have hf := hfin w N4 (by omega) da v'' ws'' D' M' g1 g2 g3 g4 g5 g6 g7
      have k2'' := g5.at hne y2
      obtain ⟨a', c', hve, _⟩ := g3.opened
      rw [strs_length] at hve
      subst hve
      simp (disch := omega) [k2'', set_is]
      exact ret_of hf
  · skip
    intro b7 hb7
    have sb := (Sub.refl M3).put hb7 (.cells true (ints [4, 8, 20]) 3)
    refine ⟨sb, ?_⟩
    have r7 := rd_fresh d3.src hb7 (c := 3) (n := 3) (w := true) (xs := ints [4, 8, 20]) rfl (Nat.le_refl 3)
    have u5 := sb _ _ q5
    have u2 := sb _ _ q2
    have d4 := d3.trans (DrR.sub d3.src sb)
    simp only [ints, List.map_cons, List.map_nil] at u5 u2 d4
    simp (disch := omega) [vT_alt, get_of u5, sub_of u5, u5]
    refine ⟨?_, ?_⟩
    · skip
      refine pick_does s _ [4, 8, 20] _ _ (d3.src.sub sb) r7 (by simp) (by simp) ?_
      intro z hz N1 e1
      have hz : 4 ≤ z ∧ z ≤ 20 := by
        simp only [List.mem_cons, List.not_mem_nil, or_false] at hz
        omega
      have p5 := e1.at hne5 u5
      have p2 := e1.at hne u2
      simp (disch := omega) [vT_alt, get_of p5, sub_of p5, p5]
      refine nx_does s z _ _ e1.src ?_
      intro n N2 _ hn e2
      have hn := hn (by omega)
      have t5 := e2.at hne5 p5
      have t2 := e2.at hne p2
      simp (disch := omega) [vT_alt, get_of t5, sub_of t5, t5]
      refine drawOf_does s n L _ _ e2.src (by omega) (by omega) ?_
      intro w N3 hwl _ e3
      have x5 := e3.at hne5 t5
      have x2 := e3.at hne t2
      simp (disch := omega) [vT_alt, get_of x5, sub_of x5, x5]
      refine nx_does s 12 _ _ e3.src ?_
      intro x N4 _ hx e4
      have hx := hx (by omega)
      have y5 := e4.at hne5 x5
      have y2 := e4.at hne x2
      by_cases h0 : x = 0
      · simp (disch := omega) [h0]
        refine spoil_does s _ _ e4.src ?_
        intro w2 N5 hw2 e5
        have z5 := e5.at hne5 y5
        have z2 := e5.at hne y2
        have da := (((d4.trans e1).trans e2).trans e3).trans (e4.trans e5)
        obtain ⟨c1, c2, c3⟩ := hbad _ da
        simp (disch := omega) [get_of z5, sub_of z5, z5]
        refine badMor_does s _ ws D _ (fun i => M0 i ≠ none) _ e5.src c1 c2 hDs hv' c3 h1 hok ?_
        intro v'' ws'' D' M' g1 g2 g3 g4 g5 g6 g7
        have hf := hfin w2 N5 (by omega) da v'' ws'' D' M' g1 g2 g3 g4 g5 g6 g7
        have k2'' := g5.at hne z2
        obtain ⟨a', c', hve, _⟩ := g3.opened
        rw [strs_length] at hve
        subst hve
        simp (disch := omega) [k2'', set_is]
        exact ret_of hf
      · simp (disch := omega) [h0]
        have da := (((d4.trans e1).trans e2).trans e3).trans e4
        obtain ⟨c1, c2, c3⟩ := hbad _ da
        simp (disch := omega) [get_of y5, sub_of y5, y5]
        refine badMor_does s _ ws D _ (fun i => M0 i ≠ none) _ e4.src c1 c2 hDs hv' c3 h1 hok ?_
        intro v'' ws'' D' M' g1 g2 g3 g4 g5 g6 g7
        have hf := hfin w N4 (by omega) da v'' ws'' D' M' g1 g2 g3 g4 g5 g6 g7
        have k2'' := g5.at hne y2
        obtain ⟨a', c', hve, _⟩ := g3.opened
        rw [strs_length] at hve
        subst hve
        simp (disch := omega) [k2'', set_is]
        exact ret_of hf
    · skip
      refine pick_does s _ [4, 8, 20] _ _ (d3.src.sub sb) r7 (by simp) (by simp) ?_
      intro z hz N1 e1
      have hz : 4 ≤ z ∧ z ≤ 20 := by
        simp only [List.mem_cons, List.not_mem_nil, or_false] at hz
        omega
      have p5 := e1.at hne5 u5
      have p2 := e1.at hne u2
      simp (disch := omega) [vT_alt, get_of p5, sub_of p5, p5]
      refine ⟨?_, ?_⟩
      · skip
        refine nx_does s z _ _ e1.src ?_
        intro n N2 _ hn e2
        have hn := hn (by omega)
        have t5 := e2.at hne5 p5
        have t2 := e2.at hne p2
        simp (disch := omega) [vT_alt, get_of t5, sub_of t5, t5]
        refine drawOf_does s n L _ _ e2.src (by omega) (by omega) ?_
        intro w N3 hwl _ e3
        have x5 := e3.at hne5 t5
        have x2 := e3.at hne t2
        simp (disch := omega) [vT_alt, get_of x5, sub_of x5, x5]
        refine nx_does s 12 _ _ e3.src ?_
        intro x N4 _ hx e4
        have hx := hx (by omega)
        have y5 := e4.at hne5 x5
        have y2 := e4.at hne x2
        by_cases h0 : x = 0
        · simp (disch := omega) [h0]
          refine spoil_does s _ _ e4.src ?_
          intro w2 N5 hw2 e5
          have z5 := e5.at hne5 y5
          have z2 := e5.at hne y2
          have da := (((d4.trans e1).trans e2).trans e3).trans (e4.trans e5)
          obtain ⟨c1, c2, c3⟩ := hbad _ da
          simp (disch := omega) [get_of z5, sub_of z5, z5]
          refine badMor_does s _ ws D _ (fun i => M0 i ≠ none) _ e5.src c1 c2 hDs hv' c3 h1 hok ?_
          intro v'' ws'' D' M' g1 g2 g3 g4 g5 g6 g7
          have hf := hfin w2 N5 (by omega) da v'' ws'' D' M' g1 g2 g3 g4 g5 g6 g7
          have k2'' := g5.at hne z2
          obtain ⟨a', c', hve, _⟩ := g3.opened
          rw [strs_length] at hve
          subst hve
          simp (disch := omega) [k2'', set_is]
          exact ret_of hf
        · simp (disch := omega) [h0]
          have da := (((d4.trans e1).trans e2).trans e3).trans e4
          obtain ⟨c1, c2, c3⟩ := hbad _ da
          simp (disch := omega) [get_of y5, sub_of y5, y5]
          refine badMor_does s _ ws D _ (fun i => M0 i ≠ none) _ e4.src c1 c2 hDs hv' c3 h1 hok ?_
          intro v'' ws'' D' M' g1 g2 g3 g4 g5 g6 g7
          have hf := hfin w N4 (by omega) da v'' ws'' D' M' g1 g2 g3 g4 g5 g6 g7
          have k2'' := g5.at hne y2
          obtain ⟨a', c', hve, _⟩ := g3.opened
          rw [strs_length] at hve
          subst hve
          simp (disch := omega) [k2'', set_is]
          exact ret_of hf
      · skip
        refine nx_does s z _ _ e1.src ?_
        intro n N2 _ hn e2
        have hn := hn (by omega)
        have t5 := e2.at hne5 p5
        have t2 := e2.at hne p2
        simp (disch := omega) [vT_alt, get_of t5, sub_of t5, t5]
        refine drawOf_does s n L _ _ e2.src (by omega) (by omega) ?_
        intro w N3 hwl _ e3
        have x5 := e3.at hne5 t5
        have x2 := e3.at hne t2
        simp (disch := omega) [vT_alt, get_of x5, sub_of x5, x5]
        refine nx_does s 12 _ _ e3.src ?_
        intro x N4 _ hx e4
        have hx := hx (by omega)
        have y5 := e4.at hne5 x5
        have y2 := e4.at hne x2
        by_cases h0 : x = 0
        · simp (disch := omega) [h0]
          refine spoil_does s _ _ e4.src ?_
          intro w2 N5 hw2 e5
          have z5 := e5.at hne5 y5
          have z2 := e5.at hne y2
          have da := (((d4.trans e1).trans e2).trans e3).trans (e4.trans e5)
          obtain ⟨c1, c2, c3⟩ := hbad _ da
          simp (disch := omega) [get_of z5, sub_of z5, z5]
          refine badMor_does s _ ws D _ (fun i => M0 i ≠ none) _ e5.src c1 c2 hDs hv' c3 h1 hok ?_
          intro v'' ws'' D' M' g1 g2 g3 g4 g5 g6 g7
          have hf := hfin w2 N5 (by omega) da v'' ws'' D' M' g1 g2 g3 g4 g5 g6 g7
          have k2'' := g5.at hne z2
          obtain ⟨a', c', hve, _⟩ := g3.opened
          rw [strs_length] at hve
          subst hve
          simp (disch := omega) [k2'', set_is]
          exact ret_of hf
        · simp (disch := omega) [h0]
          have da := (((d4.trans e1).trans e2).trans e3).trans e4
          obtain ⟨c1, c2, c3⟩ := hbad _ da
          simp (disch := omega) [get_of y5, sub_of y5, y5]
          refine badMor_does s _ ws D _ (fun i => M0 i ≠ none) _ e4.src c1 c2 hDs hv' c3 h1 hok ?_
          intro v'' ws'' D' M' g1 g2 g3 g4 g5 g6 g7
          have hf := hfin w N4 (by omega) da v'' ws'' D' M' g1 g2 g3 g4 g5 g6 g7
          have k2'' := g5.at hne y2
          obtain ⟨a', c', hve, _⟩ := g3.opened
          rw [strs_length] at hve
          subst hve
          simp (disch := omega) [k2'', set_is]
          exact ret_of hf
theorem drawIO_does (v : Value) (xs : List UInt8) (M : Mem) (R : Value → Mem → Prop) (hv : Rd M v (bytesV xs)) (hl : xs.length ≤ 4096) (h : ∀ v' ws w M', Sub M M' → MorGot M M' v' ws → (w : List UInt8).length ≤ 200 → R (.tuple #[.agg #[v'], str w]) M') : Does Tryz.prog 7 [v] M R := by
  refine does_fn tab_ok Tryz.func7 rfl (by kernel_rfl) (by kernel_rfl) Tryz.ntmps7 Tryz.results7 rfl ?_
  simp (disch := omega)
  intro b2 hb2
  have s0 : Sub M (M.put b2 (.cells true [.slice none 0 0] 1)) := (Sub.refl M).put hb2 _
  have k2 : (M.put b2 (.cells true [.slice none 0 0] 1)) b2 = some (.cells true [.slice none 0 0] 1) := put_same _ _ _
  simp (disch := omega)
  generalize M.put b2 (.cells true [.slice none 0 0] 1) = M0 at *
  refine with_does v xs _ _ (hv.sub s0) hl ?_
  rintro v' ws w M1 s1 ⟨D, hD, hv', hD2, h200, h100⟩ hw
  have k2' := s1 _ _ k2
  have hf := h v' ws w (M1.put b2 (.cells true [v'] 1)) (by
    intro j B hj
    have e : j ≠ b2 := by rintro rfl; rw [hb2] at hj; cases hj
    rw [put_ne _ _ e]
    exact s1 _ _ (s0 _ _ hj)) ⟨D, fun i hi => hD i (told_sub s0 hi), hv', by
    intro j B hj
    have e : j ≠ b2 := by rintro rfl; rw [hD j (by rw [k2]; intro q; cases q)] at hj; cases hj
    rw [put_ne _ _ e]
    exact hD2 _ _ hj, h200, h100⟩ hw
  obtain ⟨a, c, hve, _⟩ := hv'.opened
  rw [strs_length] at hve
  subst hve
  simp (disch := omega) [k2', set_is]
  exact ret_of hf
theorem drawIT_does (v : Value) (xs : List UInt8) (M : Mem) (R : Value → Mem → Prop) (hv : Rd M v (bytesV xs)) (hl : xs.length ≤ 4096) (h : ∀ v' ws w (y : Int) M', Sub M M' → MorGot M M' v' ws → (w : List UInt8).length ≤ 200 → R (.tuple #[.agg #[v'], str w, .int .i64 y]) M') : Does Tryz.prog 10 [v] M R := by
  refine does_fn tab_ok Tryz.func10 rfl (by kernel_rfl) (by kernel_rfl) Tryz.ntmps10 Tryz.results10 rfl ?_
  simp (disch := omega)
  intro b2 hb2
  have s0 : Sub M (M.put b2 (.cells true [.slice none 0 0] 1)) := (Sub.refl M).put hb2 _
  have k2 : (M.put b2 (.cells true [.slice none 0 0] 1)) b2 = some (.cells true [.slice none 0 0] 1) := put_same _ _ _
  simp (disch := omega)
  generalize M.put b2 (.cells true [.slice none 0 0] 1) = M0 at *
  refine from_does v xs _ _ (hv.sub s0) hl ?_
  intro s M1 hs1 s1 hsrc
  have hne : b2 ≠ s.b := by rintro rfl; rw [hs1] at k2; cases k2
  simp (disch := omega)
  refine with_does v xs _ _ (hv.sub (s0.trans s1)) hl ?_
  rintro v' ws w M2 hM2 ⟨D, hD, hv', hD2, h200, h100⟩ hwl
  have hMs : M s.b = none := none_of s0 hs1
  have k2' := hM2 _ _ (s1 _ _ k2)
  have hb2D : D b2 = none := hD b2 (by rw [s1 _ _ k2]; intro q; cases q)
  have hDs : D s.b = none := hD s.b hsrc.told
  have hkM : Sub M M2 := (s0.trans s1).trans hM2
  have d2 := DrR.sub hsrc hM2
  have hfin : ∀ (z : Int) M', DrR s M2 M' → R (.tuple #[.agg #[v'], str w, .int .i64 z]) (M'.put b2 (.cells true [v'] 1)) := by
    intro z M' d
    refine h v' ws w z _ ?_ ⟨D, fun i hi => hD i (told_sub (s0.trans s1) hi), hv', ?_, h200, h100⟩ hwl
    · intro j B hj
      have e : j ≠ b2 := by rintro rfl; rw [hb2] at hj; cases hj
      rw [put_ne _ _ e]
      exact d.keep M hMs hkM _ _ hj
    · intro j B hj
      have e : j ≠ b2 := by rintro rfl; rw [hb2D] at hj; cases hj
      rw [put_ne _ _ e]
      exact d.keep D hDs hD2 _ _ hj
  obtain ⟨a, c, rfl, _⟩ := hv'.opened
  rw [strs_length] at hfin ⊢
  obtain ⟨L, hL⟩ : ∃ L, L = ws.length := ⟨_, rfl⟩
  rw [← hL] at hfin ⊢
  simp (disch := omega)
  intro b5 hb5
  have hne5 : b5 ≠ s.b := by rintro rfl; exact d2.src.told hb5
  have hne52 : b2 ≠ b5 := by rintro rfl; rw [k2'] at hb5; cases hb5
  have q5 : (M2.put b5 (.cells true [.slice a L c] 1)) b5 = some (.cells true [.slice a L c] 1) := put_same _ _ _
  have q2 : (M2.put b5 (.cells true [.slice a L c] 1)) b2 = some (.cells true [.slice none 0 0] 1) := by rw [put_ne _ _ hne52]; exact k2'
  have d3 := DrR.sub d2.src ((Sub.refl M2).put hb5 (.cells true [.slice a L c] 1))
  simp (disch := omega)
  generalize M2.put b5 (.cells true [.slice a L c] 1) = M3 at *
  refine plays (lights [1, 2, 3] (.alt 0 1 (.one 4 2 (.one 5 1 (.one 6 2 (.one 7 2 (lights [8, 9] .fin))))) (.one 4 2 (.alt 0 1 (.one 5 1 (.one 6 2 (.one 7 2 (lights [8, 9] .fin)))) (.one 5 1 (.alt 0 1 (.one 6 2 (.one 7 2 (lights [8, 9] .fin))) (.one 6 2 (.one 0 1 (.one 7 2 (lights [8, 9] .fin)))))))))) tab_ok (by kernel_rfl) (by kernel_rfl) (by rfl) ?_
  simp (disch := omega) [vT_alt, get_of q5, sub_of q5, q5]
  refine ⟨?_, ?_⟩
  · skip
    refine near_does s 100 _ _ d3.src (by omega) ?_
    intro x N1 e1
    have p5 := e1.at hne5 q5
    simp (disch := omega) [vT_alt, get_of p5, sub_of p5, p5]
    intro b7 hb7
    have sb := (Sub.refl N1).put hb7 (.cells true (ints [0, 1, 2, 2, 3, 4, x]) 7)
    refine ⟨sb, ?_⟩
    have r7 := rd_fresh e1.src hb7 (c := 7) (n := 7) (w := true) (xs := ints [0, 1, 2, 2, 3, 4, x]) rfl (Nat.le_refl 7)
    have u5 := sb _ _ p5
    simp only [ints, List.map_cons, List.map_nil] at u5
    simp (disch := omega) [vT_alt, get_of u5, sub_of u5, u5]
    refine pick_does s _ [0, 1, 2, 2, 3, 4, x] _ _ (e1.src.sub sb) r7 (by simp) (by simp) ?_
    intro z _ N2 e2
    have e3 := ((d3.trans e1).trans (DrR.sub e1.src sb)).trans e2
    have p5 := e2.at hne5 (sb _ _ (e1.at hne5 q5))
    have p2 := e2.at hne (sb _ _ (e1.at hne q2))
    simp (disch := omega) [vT_alt, get_of p5, sub_of p5, p5, p2, set_is]
    exact ret_of (hfin z _ e3)
  · skip
    refine near_does s 100 _ _ d3.src (by omega) ?_
    intro x N1 e1
    have p5 := e1.at hne5 q5
    simp (disch := omega) [vT_alt, get_of p5, sub_of p5, p5]
    refine ⟨?_, ?_⟩
    · skip
      intro b7 hb7
      have sb := (Sub.refl N1).put hb7 (.cells true (ints [0, 1, 2, 2, 3, 4, x]) 7)
      refine ⟨sb, ?_⟩
      have r7 := rd_fresh e1.src hb7 (c := 7) (n := 7) (w := true) (xs := ints [0, 1, 2, 2, 3, 4, x]) rfl (Nat.le_refl 7)
      have u5 := sb _ _ p5
      simp only [ints, List.map_cons, List.map_nil] at u5
      simp (disch := omega) [vT_alt, get_of u5, sub_of u5, u5]
      refine pick_does s _ [0, 1, 2, 2, 3, 4, x] _ _ (e1.src.sub sb) r7 (by simp) (by simp) ?_
      intro z _ N2 e2
      have e3 := ((d3.trans e1).trans (DrR.sub e1.src sb)).trans e2
      have p5 := e2.at hne5 (sb _ _ (e1.at hne5 q5))
      have p2 := e2.at hne (sb _ _ (e1.at hne q2))
      simp (disch := omega) [vT_alt, get_of p5, sub_of p5, p5, p2, set_is]
      exact ret_of (hfin z _ e3)
    · skip
      intro b7 hb7
      have sb := (Sub.refl N1).put hb7 (.cells true (ints [0, 1, 2, 2, 3, 4, x]) 7)
      refine ⟨sb, ?_⟩
      have r7 := rd_fresh e1.src hb7 (c := 7) (n := 7) (w := true) (xs := ints [0, 1, 2, 2, 3, 4, x]) rfl (Nat.le_refl 7)
      have u5 := sb _ _ p5
      simp only [ints, List.map_cons, List.map_nil] at u5
      simp (disch := omega) [vT_alt, get_of u5, sub_of u5, u5]
      refine ⟨?_, ?_⟩
      · skip
        refine pick_does s _ [0, 1, 2, 2, 3, 4, x] _ _ (e1.src.sub sb) r7 (by simp) (by simp) ?_
        intro z _ N2 e2
        have e3 := ((d3.trans e1).trans (DrR.sub e1.src sb)).trans e2
        have p5 := e2.at hne5 (sb _ _ (e1.at hne5 q5))
        have p2 := e2.at hne (sb _ _ (e1.at hne q2))
        simp (disch := omega) [vT_alt, get_of p5, sub_of p5, p5, p2, set_is]
        exact ret_of (hfin z _ e3)
      · skip
        refine pick_does s _ [0, 1, 2, 2, 3, 4, x] _ _ (e1.src.sub sb) r7 (by simp) (by simp) ?_
        intro z _ N2 e2
        have e3 := ((d3.trans e1).trans (DrR.sub e1.src sb)).trans e2
        have p5 := e2.at hne5 (sb _ _ (e1.at hne5 q5))
        have p2 := e2.at hne (sb _ _ (e1.at hne q2))
        simp (disch := omega) [vT_alt, get_of p5, sub_of p5, p5, p2, set_is]
        exact ret_of (hfin z _ e3)
theorem drawPM_does (v : Value) (xs : List UInt8) (M : Mem) (R : Value → Mem → Prop) (hv : Rd M v (bytesV xs)) (hl : xs.length ≤ 4096) (h : ∀ w M', Sub M M' → (w : List UInt8).length ≤ 30000 → R (str w) M') : Does Tryz.prog 19 [v] M R := by
  refine does_fn tab_ok Tryz.func19 rfl (by kernel_rfl) (by kernel_rfl) Tryz.ntmps19 Tryz.results19 rfl ?_
  simp (disch := omega)
  refine from_does v xs _ _ hv hl ?_
  intro s M1 hs1 s1 hsrc
  simp (disch := omega)
  refine drawM_does s _ _ hsrc ?_
  intro v' ws D M2 hD hv' hD2 d2 h200 h100
  simp (disch := omega)
  refine text_does v' ws _ _ (hv'.sub hD2) h200 h100 ?_
  intro M3 s3
  have d3 := DrR.sub d2.src s3
  have hln := txt_len h100
  have hl5 : ws.length * 101 ≤ 200 * 101 := Nat.mul_le_mul h200 (Nat.le_refl 101)
  generalize txt ws = t at *
  simp (disch := omega)
  refine nx_does s 4 _ _ d3.src ?_
  intro x M4 _ hx d4
  have hx := hx (by omega)
  by_cases h0 : x = 0
  · simp (disch := omega) [h0]
    refine damage_does s t _ _ d4.src (by omega) ?_
    intro w M5 hw d5
    simp (disch := omega)
    exact ret_of (h w _ ((((d2.trans d3).trans d4).trans d5).keep M hs1 s1) (by omega))
  · simp (disch := omega) [h0]
    exact ret_of (h t _ (((d2.trans d3).trans d4).keep M hs1 s1) (by omega))
theorem drawCM_does (v : Value) (xs : List UInt8) (M : Mem) (R : Value → Mem → Prop) (hv : Rd M v (bytesV xs)) (hl : xs.length ≤ 4096) (h : ∀ v' ws u' us M', Sub M M' → MorGot M M' v' ws → MorGot M M' u' us → R (.tuple #[.agg #[v'], .agg #[u']]) M') : Does Tryz.prog 13 [v] M R := by
  refine does_fn tab_ok Tryz.func13 rfl (by kernel_rfl) (by kernel_rfl) Tryz.ntmps13 Tryz.results13 rfl ?_
  simp (disch := omega)
  intro b2 hb2
  simp (disch := omega)
  intro b3 hb3
  have s0 : Sub M (M.put b2 (.cells true [.slice none 0 0] 1)) := (Sub.refl M).put hb2 _
  have h23 : b2 ≠ b3 := by rintro rfl; rw [put_same] at hb3; cases hb3
  have hb3M : M b3 = none := by rw [put_ne _ _ (Ne.symm h23)] at hb3; exact hb3
  have s0b : Sub M ((M.put b2 (.cells true [.slice none 0 0] 1)).put b3 (.cells true [.slice none 0 0] 1)) := s0.put hb3M _
  have k2 : ((M.put b2 (.cells true [.slice none 0 0] 1)).put b3 (.cells true [.slice none 0 0] 1)) b2 = some (.cells true [.slice none 0 0] 1) := by rw [put_ne _ _ h23]; exact put_same _ _ _
  have k3 : ((M.put b2 (.cells true [.slice none 0 0] 1)).put b3 (.cells true [.slice none 0 0] 1)) b3 = some (.cells true [.slice none 0 0] 1) := put_same _ _ _
  simp (disch := omega)
  generalize (M.put b2 (.cells true [.slice none 0 0] 1)).put b3 (.cells true [.slice none 0 0] 1) = M0 at *
  refine from_does v xs _ _ (hv.sub s0b) hl ?_
  intro s M1 hs1 s1 hsrc
  have hne2 : b2 ≠ s.b := by rintro rfl; rw [hs1] at k2; cases k2
  have hne3 : b3 ≠ s.b := by rintro rfl; rw [hs1] at k3; cases k3
  have hMs : M s.b = none := none_of s0b hs1
  simp (disch := omega)
  refine drawM_does s _ _ hsrc ?_
  intro v' ws D M2 hD hv' hD2 d2 h200 h100
  have hDs : D s.b = none := hD s.b hsrc.told
  have hkM : Sub M M2 := d2.keep M hMs (s0b.trans s1)
  have j2 := d2.at hne2 (s1 _ _ k2)
  have j3 := d2.at hne3 (s1 _ _ k3)
  obtain ⟨a, c, hve, _⟩ := hv'.opened
  rw [strs_length] at hve
  subst hve
  obtain ⟨L, hL⟩ : ∃ L, L = ws.length := ⟨_, rfl⟩
  rw [← hL] at hv' h200 ⊢
  simp (disch := omega)
  intro b6 hb6
  have s6 := (Sub.refl M2).put hb6 (.cells true [] 0)
  simp (disch := omega)
  intro b5 hb5
  have hb5M : M2 b5 = none := none_of s6 hb5
  have hne5 : b5 ≠ s.b := by rintro rfl; exact d2.src.told hb5M
  have h25 : b2 ≠ b5 := by rintro rfl; rw [j2] at hb5M; cases hb5M
  have h35 : b3 ≠ b5 := by rintro rfl; rw [j3] at hb5M; cases hb5M
  have o0 := (Own.new (M := M2) (xs := strs []) (n := 0) (c := 0) hb6 rfl (Nat.le_refl 0)).push hb5 (.cells true [.slice a L c] 1)
  have d5 : DrR s M2 (M2.put b5 (.cells true [.slice a L c] 1)) := DrR.sub d2.src ((Sub.refl M2).put hb5M _)
  have z5 : (M2.put b5 (.cells true [.slice a L c] 1)) b5 = some (.cells true [.slice a L c] 1) := put_same _ _ _
  have z2 : (M2.put b5 (.cells true [.slice a L c] 1)) b2 = some (.cells true [.slice none 0 0] 1) := by rw [put_ne _ _ h25]; exact j2
  have z3 : (M2.put b5 (.cells true [.slice a L c] 1)) b3 = some (.cells true [.slice none 0 0] 1) := by rw [put_ne _ _ h35]; exact j3
  have hkB := d5.keep M hMs hkM
  have hkD := d5.keep D hDs hD2
  have tB : ∀ i, M0 i ≠ none → (M2.put b5 (.cells true [.slice a L c] 1)) i ≠ none := fun i hi => d5.keepT (d2.keepT (told_sub s1 hi))
  have hDb2 : D b2 = none := hD b2 (by rw [s1 _ _ k2]; intro q; cases q)
  have hDb3 : D b3 = none := hD b3 (by rw [s1 _ _ k3]; intro q; cases q)
  generalize M2.put b5 (.cells true [.slice a L c] 1) = Nb at *
  have q5 := o0.sub _ _ z5
  simp (disch := omega) [get_of q5, sub_of q5, q5]
  by_cases hL0 : 0 < L
  · obtain ⟨m, hm, hm5⟩ : ∃ m : Nat, min L 5 = m ∧ (1 ≤ m ∧ m ≤ 5) := ⟨_, rfl, by omega⟩
    simp (disch := omega) [hL0, get_of q5, sub_of q5, q5]
    have hmI : (if (L : Int) < 5 then (L : Int) else 5) = m := by split <;> omega
    have hmI2 : (if (5 : Int) < L then (5 : Int) else L) = m := by split <;> omega
    have hmI3 : min (L : Int) 5 = m := by omega
    simp only [hmI, hmI2, hmI3]
    refine loop_to tab_ok [7, 8, 22, 23, 24, 25, 26, 27, 28, 29, 30, 31, 32, 33, 34, 35, 36, 37, 38] (fun x : List (List UInt8) × Value => [(8, .int .i64 (x.1.length : Nat)), (7, x.2)]) (fun x N => x.1.length ≤ m + 1 ∧ (∀ w ∈ x.1, w.length ≤ 100) ∧ ∃ Mb, DrR s Nb Mb ∧ Own Mb x.2 (strs x.1) N) (fun x => m + 1 - x.1.length) ([], .slice (some ⟨b6, 0, none⟩) 0 0) (by kernel_rfl) (by simp (disch := omega)) ⟨Nat.zero_le _, fun w hw => (by cases hw), _, DrR.refl d5.src, o0⟩ ?_
    rintro ⟨us, vu⟩ N g ⟨hul, huk, Mb, dM, ho⟩
    simp only at hul huk ho
    have dN := DrR.sub dM.src ho.sub
    simp (disch := omega)
    refine nx_does s 24 _ _ dN.src ?_
    intro x N1 _ hx e1
    have hx := hx (by omega)
    obtain ⟨y, hy, hy2⟩ : ∃ y : Int, x.tdiv 23 = y ∧ (0 ≤ y ∧ y ≤ 1) := by
      by_cases h23 : x < 23
      · exact ⟨0, Int.tdiv_eq_zero_of_lt (by omega) (by omega), by omega⟩
      · have : x = 23 := by omega
        subst this
        exact ⟨1, rfl, by omega⟩
    by_cases hlt : (us.length : Int) < m + y
    · simp (disch := omega) [hy, hlt]
      refine nx_does s 5 _ _ e1.src ?_
      intro n N2 _ hn e2
      have hn := hn (by omega)
      simp (disch := omega)
      refine drawOf_does s n m _ _ e2.src (by omega) (by omega) ?_
      intro w N3 hwl _ e3
      obtain ⟨Mb2, M2', o2, s2, f2⟩ := own_draw ho dM.src (Sub.refl N) ((e1.trans e2).trans e3)
      simp (disch := omega)
      intro b' hb'
      simp (disch := omega)
      refine app_own o2 (s2.trans ((Sub.refl _).put hb' _)) (by simp (disch := omega); rfl) rfl rfl (by omega) (by simp (disch := omega)) (by simp (disch := omega); omega) ?_
      intro v' M'' N'' ho' hs'
      simp (disch := omega)
      refine Rnd.mk'' M'' (us ++ [w], v') hs' (by simp only [List.length_append, List.length_singleton]; omega) (by (repeat (first | exact km | refine kp rfl ?_ | refine km' rfl ?_))) (by simp (disch := omega)) ⟨by simp only [List.length_append, List.length_singleton]; omega, ?_, Mb2, dM.trans f2, ?_⟩
      · intro u hu
        rcases List.mem_append.1 hu with hu | hu
        · exact huk u hu
        · rw [List.mem_singleton.1 hu]; omega
      · simp only
        rw [← strs_snoc]
        exact ho'
    · obtain ⟨Mb2, M2', o2, s2, f2⟩ := own_draw ho dM.src (Sub.refl N) e1
      obtain ⟨D2, r1, r2, r3⟩ := own_alone o2
      have t2 := e1.at hne2 (ho.sub _ _ (dM.at hne2 z2))
      have t3 := e1.at hne3 (ho.sub _ _ (dM.at hne3 z3))
      have t5 := e1.at hne5 (ho.sub _ _ (dM.at hne5 z5))
      have hD2' : ∀ i, M0 i ≠ none → D2 i = none := fun i hi => r3 i (f2.keepT (dM.keepT (tB i hi)))
      have hk2 : D2 b2 = none := hD2' b2 (by rw [k2]; intro q; cases q)
      have hk3 : D2 b3 = none := hD2' b3 (by rw [k3]; intro q; cases q)
      have hst : ∀ (E : Mem) (B B' : Blk), E b2 = none → E b3 = none → Sub E N1 → Sub E ((N1.put b2 B).put b3 B') := by
        intro E B B' e2 e3 hE j Bj hj
        have n2 : j ≠ b2 := by rintro rfl; rw [e2] at hj; cases hj
        have n3 : j ≠ b3 := by rintro rfl; rw [e3] at hj; cases hj
        rw [put_ne _ _ n3, put_ne _ _ n2]
        exact hE _ _ hj
      have hf := h (.slice a L c) ws vu us _ (hst M (.cells true [.slice a L c] 1) (.cells true [vu] 1) hb2 hb3M (e1.keep M hMs ((dM.keep M hMs hkB).trans ho.sub))) ⟨D, fun i hi => hD i (told_sub (s0b.trans s1) hi), hv', hst D _ _ hDb2 hDb3 (e1.keep D hDs ((dM.keep D hDs hkD).trans ho.sub)), by omega, h100⟩ ⟨D2, fun i hi => hD2' i (told_sub s0b hi), r1, hst D2 _ _ hk2 hk3 (r2.trans s2), by omega, huk⟩
      obtain ⟨a', c', hve, _⟩ := r1.opened
      rw [strs_length] at hve
      subst hve
      have t3' : (N1.put b2 (.cells true [.slice a L c] 1)) b3 = some (.cells true [.slice none 0 0] 1) := by rw [put_ne _ _ (Ne.symm h23)]; exact t3
      simp (disch := omega) [hy, hlt, get_of t5, sub_of t5, t5, t2, t3, set_is]
      try simp (disch := omega) [t3', set_is]
      exact ret_of hf
  · obtain ⟨m, hm, hm5⟩ : ∃ m : Nat, (2 : Int) = m ∧ (1 ≤ m ∧ m ≤ 5) := ⟨2, rfl, by omega⟩
    simp (disch := omega) [hL0, get_of q5, sub_of q5, q5]
    rw [hm]
    refine loop_to tab_ok [7, 8, 22, 23, 24, 25, 26, 27, 28, 29, 30, 31, 32, 33, 34, 35, 36, 37, 38] (fun x : List (List UInt8) × Value => [(8, .int .i64 (x.1.length : Nat)), (7, x.2)]) (fun x N => x.1.length ≤ m + 1 ∧ (∀ w ∈ x.1, w.length ≤ 100) ∧ ∃ Mb, DrR s Nb Mb ∧ Own Mb x.2 (strs x.1) N) (fun x => m + 1 - x.1.length) ([], .slice (some ⟨b6, 0, none⟩) 0 0) (by kernel_rfl) (by simp (disch := omega)) ⟨Nat.zero_le _, fun w hw => (by cases hw), _, DrR.refl d5.src, o0⟩ ?_
    rintro ⟨us, vu⟩ N g ⟨hul, huk, Mb, dM, ho⟩
    simp only at hul huk ho
    have dN := DrR.sub dM.src ho.sub
    simp (disch := omega)
    refine nx_does s 24 _ _ dN.src ?_
    intro x N1 _ hx e1
    have hx := hx (by omega)
    obtain ⟨y, hy, hy2⟩ : ∃ y : Int, x.tdiv 23 = y ∧ (0 ≤ y ∧ y ≤ 1) := by
      by_cases h23 : x < 23
      · exact ⟨0, Int.tdiv_eq_zero_of_lt (by omega) (by omega), by omega⟩
      · have : x = 23 := by omega
        subst this
        exact ⟨1, rfl, by omega⟩
    by_cases hlt : (us.length : Int) < m + y
    · simp (disch := omega) [hy, hlt]
      refine nx_does s 5 _ _ e1.src ?_
      intro n N2 _ hn e2
      have hn := hn (by omega)
      simp (disch := omega)
      refine drawOf_does s n m _ _ e2.src (by omega) (by omega) ?_
      intro w N3 hwl _ e3
      obtain ⟨Mb2, M2', o2, s2, f2⟩ := own_draw ho dM.src (Sub.refl N) ((e1.trans e2).trans e3)
      simp (disch := omega)
      intro b' hb'
      simp (disch := omega)
      refine app_own o2 (s2.trans ((Sub.refl _).put hb' _)) (by simp (disch := omega); rfl) rfl rfl (by omega) (by simp (disch := omega)) (by simp (disch := omega); omega) ?_
      intro v' M'' N'' ho' hs'
      simp (disch := omega)
      refine Rnd.mk'' M'' (us ++ [w], v') hs' (by simp only [List.length_append, List.length_singleton]; omega) (by (repeat (first | exact km | refine kp rfl ?_ | refine km' rfl ?_))) (by simp (disch := omega)) ⟨by simp only [List.length_append, List.length_singleton]; omega, ?_, Mb2, dM.trans f2, ?_⟩
      · intro u hu
        rcases List.mem_append.1 hu with hu | hu
        · exact huk u hu
        · rw [List.mem_singleton.1 hu]; omega
      · simp only
        rw [← strs_snoc]
        exact ho'
    · obtain ⟨Mb2, M2', o2, s2, f2⟩ := own_draw ho dM.src (Sub.refl N) e1
      obtain ⟨D2, r1, r2, r3⟩ := own_alone o2
      have t2 := e1.at hne2 (ho.sub _ _ (dM.at hne2 z2))
      have t3 := e1.at hne3 (ho.sub _ _ (dM.at hne3 z3))
      have t5 := e1.at hne5 (ho.sub _ _ (dM.at hne5 z5))
      have hD2' : ∀ i, M0 i ≠ none → D2 i = none := fun i hi => r3 i (f2.keepT (dM.keepT (tB i hi)))
      have hk2 : D2 b2 = none := hD2' b2 (by rw [k2]; intro q; cases q)
      have hk3 : D2 b3 = none := hD2' b3 (by rw [k3]; intro q; cases q)
      have hst : ∀ (E : Mem) (B B' : Blk), E b2 = none → E b3 = none → Sub E N1 → Sub E ((N1.put b2 B).put b3 B') := by
        intro E B B' e2 e3 hE j Bj hj
        have n2 : j ≠ b2 := by rintro rfl; rw [e2] at hj; cases hj
        have n3 : j ≠ b3 := by rintro rfl; rw [e3] at hj; cases hj
        rw [put_ne _ _ n3, put_ne _ _ n2]
        exact hE _ _ hj
      have hf := h (.slice a L c) ws vu us _ (hst M (.cells true [.slice a L c] 1) (.cells true [vu] 1) hb2 hb3M (e1.keep M hMs ((dM.keep M hMs hkB).trans ho.sub))) ⟨D, fun i hi => hD i (told_sub (s0b.trans s1) hi), hv', hst D _ _ hDb2 hDb3 (e1.keep D hDs ((dM.keep D hDs hkD).trans ho.sub)), by omega, h100⟩ ⟨D2, fun i hi => hD2' i (told_sub s0b hi), r1, hst D2 _ _ hk2 hk3 (r2.trans s2), by omega, huk⟩
      obtain ⟨a', c', hve, _⟩ := r1.opened
      rw [strs_length] at hve
      subst hve
      have t3' : (N1.put b2 (.cells true [.slice a L c] 1)) b3 = some (.cells true [.slice none 0 0] 1) := by rw [put_ne _ _ (Ne.symm h23)]; exact t3
      simp (disch := omega) [hy, hlt, get_of t5, sub_of t5, t5, t2, t3, set_is]
      try simp (disch := omega) [t3', set_is]
      exact ret_of hf
end Go.Proofs.YticejlplbibegaaGreatDoor

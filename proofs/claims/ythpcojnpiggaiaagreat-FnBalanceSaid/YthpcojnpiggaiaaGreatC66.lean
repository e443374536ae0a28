/- Draws: words (the drawn names stand apart). -/
import Derived.Test.YthpcojnpiggaiaaGreatCJ
import Derived.Test.YthpcojnpiggaiaaGreatCK
namespace Go.Proofs.YthpcojnpiggaiaaGreat
open Go
set_option linter.unusedSimpArgs false
set_option linter.unusedVariables false

theorem names4_len : names4.length = 4 := nr rfl
theorem names4_in : ∀ l ∈ names4, l.length ≤ 1099511627776 := by
  intro l hl
  have h : ∀ l ∈ names4, l.length ≤ 20 := by decide
  have := h l hl
  omega
theorem names4_eq : [str [102, 105, 98, 111, 110, 97, 99, 99, 105], str [116, 104, 117, 101], str [100, 111, 117, 98, 108, 105, 110, 103], str [116, 114, 105, 112, 108, 101]] = strs names4 := nr rfl
theorem name_at2 {x : Int} (h : 0 ≤ x ∧ x < 4) : ∃ l ∈ names4, ∃ k : Nat, x = k ∧ (strs names4)[k]? = some (str l) := by
  obtain ⟨k, rfl⟩ : ∃ k : Nat, x = k := ⟨x.toNat, by omega⟩
  have : k = 0 ∨ k = 1 ∨ k = 2 ∨ k = 3 := by omega
  rcases this with rfl | rfl | rfl | rfl
  · exact ⟨_, by simp [names4], 0, rfl, rfl⟩
  · exact ⟨_, by simp [names4], 1, rfl, rfl⟩
  · exact ⟨_, by simp [names4], 2, rfl, rfl⟩
  · exact ⟨_, by simp [names4], 3, rfl, rfl⟩
theorem rd_del {M : Mem} {b sb c n : Nat} {w : Bool} {xs : List Value} (h : M b = some (.cells w xs c)) (hne : b ≠ sb) (hn : xs.length = n) (hc : n ≤ c) : Rd (M.del sb) (.slice (some ⟨b, 0, none⟩) n c) xs := by
  have h2 : (M.del sb) b = some (.cells w xs c) := by simp only [Mem.del, if_neg hne]; exact h
  refine .inr ⟨b, 0, c, by rw [hn], ?_, by rw [hn]; exact hc⟩
  rw [sub_of h2, optIf, if_pos (by omega), List.drop_zero, List.take_length]
theorem named2_does (l : List UInt8) (m : Nat) (M : Mem) (R : Value → Mem → Prop) (hl : l.length ≤ 1099511627776) (hm : m ≤ 60) (h : ∀ y b, (y : List UInt8).length ≤ 60 → R (.tuple #[str y, .bool b]) M) : Does Tryz.prog 106 [str l, .int .i64 m] M R := by
  refine l01Named_does l m _ _ hl hm ?_
  cases named l with
  | none => exact h [] false (by simp)
  | some ws => exact h _ true (by rw [List.length_take]; omega)
theorem l01Names_does (M : Mem) (R : Value → Mem → Prop) (h : ∀ b, M b = none → R (.slice (some ⟨b, 0, none⟩) 4 4) (M.put b (.cells true (strs names4) 4))) : Does Tryz.prog 105 [] M R := by
  refine does_fn tab_ok Tryz.func105 rfl (by kernel_rfl) (by kernel_rfl) Tryz.ntmps105 Tryz.results105 rfl ?_
  simp (disch := omega) [names4_eq, names4_len]
  intro b hb
  simp (disch := omega) [names4_len]
  exact ret_of (h b hb)
set_option maxHeartbeats 2000000 in
theorem drawW_does (s : Rng) (M : Mem) (R : Value → Mem → Prop) (hs : SrcR M s) (h : ∀ w M', (w : List UInt8).length ≤ 100 → DrR s M M' → R (str w) M') : Does Tryz.prog 50 [.pointer (some ⟨s.b, 0, none⟩)] M R := by
  refine does_fn tab_ok Tryz.func50 rfl (by kernel_rfl) (by kernel_rfl) Tryz.ntmps50 Tryz.results50 rfl ?_
  simp (disch := omega)
  refine nx_does s 6 _ _ hs ?_
  intro x M1 _ hx d1
  by_cases x0 : x = 0
  · simp (disch := omega) [x0]
    refine l01Names_does _ _ ?_
    intro bn hbn
    have kn := put_same M1 bn (.cells true (strs names4) 4)
    have nbn : bn ≠ s.b := by rintro rfl; exact d1.src.told hbn
    have dd := d1.trans (DrR.sub d1.src ((Sub.refl M1).put hbn (.cells true (strs names4) 4)))
    simp (disch := omega)
    generalize M1.put bn (.cells true (strs names4) 4) = M2 at *
    refine plays (lights [0, 1, 5, 6] (.alt 7 1 (.one 2 2 (lights [3] (.alt 4 1 (.one 8 2 (.one 9 2 (.one 10 1 (lights [11, 12, 13, 14, 15] .fin)))) (.one 8 2 (.alt 4 1 (.one 9 2 (.one 10 1 (lights [11, 12, 13, 14, 15] .fin))) (.one 9 2 (.one 4 1 (.one 10 1 (lights [11, 12, 13, 14, 15] .fin))))))))) (.one 2 2 (lights [3] (.alt 4 1 (.one 7 1 (.one 8 2 (.one 9 2 (.one 10 1 (lights [11, 12, 13, 14, 15] .fin))))) (.one 7 1 (.alt 4 1 (.one 8 2 (.one 9 2 (.one 10 1 (lights [11, 12, 13, 14, 15] .fin)))) (.one 8 2 (.alt 4 1 (.one 9 2 (.one 10 1 (lights [11, 12, 13, 14, 15] .fin))) (.one 9 2 (.one 4 1 (.one 10 1 (lights [11, 12, 13, 14, 15] .fin))))))))))))) tab_ok (by kernel_rfl) (by kernel_rfl) (by rfl) ?_
    simp (disch := omega) [vT_alt]
    refine ⟨?_, ?_⟩
    · skip
      intro b5 hb5
      have sb := (Sub.refl M2).put hb5 (.cells true (ints [12, 30, 61]) 3)
      have k5 := put_same M2 b5 (.cells true (ints [12, 30, 61]) 3)
      have nb5 : b5 ≠ s.b := by rintro rfl; exact dd.src.told hb5
      refine ⟨sb, ?_⟩
      have dd := dd.trans (DrR.sub dd.src sb)
      have kn := sb _ _ kn
      simp only [ints, List.map_cons, List.map_nil] at sb k5 dd kn
      generalize M2.put b5 (.cells true [.int .i64 12, .int .i64 30, .int .i64 61] 3) = N5 at *
      simp (disch := omega) [vT_alt]
      refine nx_does s 4 _ _ dd.src ?_
      intro y2 N2 _ hy2 e2
      have hy2 := hy2 (by omega)
      have dd := dd.trans e2
      have kn := e2.at nbn kn
      have k5 := e2.at nb5 k5
      obtain ⟨l, hln, i4, rfl, hget⟩ := name_at2 hy2
      have gl := get_of kn i4
      rw [hget] at gl
      simp (disch := omega) [vT_alt, gl]
      refine ⟨?_, ?_⟩
      · skip
        have r5 := rd_del (n := 3) k5 nb5 rfl (Nat.le_refl 3)
        refine pick_does s _ [12, 30, 61] _ _ dd.src r5 (by simp) (by simp) ?_
        intro z hz N8 e8
        have hz : 1 ≤ z ∧ z ≤ 61 := by
          simp only [List.mem_cons, List.not_mem_nil, or_false] at hz
          omega
        have dd := dd.trans e8
        have kn := e8.at nbn kn
        have k5 := e8.at nb5 k5
        have gl := get_of kn i4
        rw [hget] at gl
        simp (disch := omega) [vT_alt, gl]
        refine nx_does s z _ _ dd.src ?_
        intro m N9 _ hm e9
        have hm := hm (by omega)
        have dd := dd.trans e9
        have kn := e9.at nbn kn
        have k5 := e9.at nb5 k5
        obtain ⟨m, rfl⟩ : ∃ k : Nat, m = k := ⟨m.toNat, by omega⟩
        have gl := get_of kn i4
        rw [hget] at gl
        simp (disch := omega) [vT_alt, gl]
        refine named2_does l m _ _ (names4_in l hln) (by omega) ?_
        intro y b hy
        simp (disch := omega)
        exact ret_of (h y _ (by omega) dd)
      · skip
        have r5 := rd_del (n := 3) k5 nb5 rfl (Nat.le_refl 3)
        refine pick_does s _ [12, 30, 61] _ _ dd.src r5 (by simp) (by simp) ?_
        intro z hz N8 e8
        have hz : 1 ≤ z ∧ z ≤ 61 := by
          simp only [List.mem_cons, List.not_mem_nil, or_false] at hz
          omega
        have dd := dd.trans e8
        have kn := e8.at nbn kn
        have k5 := e8.at nb5 k5
        have gl := get_of kn i4
        rw [hget] at gl
        simp (disch := omega) [vT_alt, gl]
        refine ⟨?_, ?_⟩
        · skip
          refine nx_does s z _ _ dd.src ?_
          intro m N9 _ hm e9
          have hm := hm (by omega)
          have dd := dd.trans e9
          have kn := e9.at nbn kn
          have k5 := e9.at nb5 k5
          obtain ⟨m, rfl⟩ : ∃ k : Nat, m = k := ⟨m.toNat, by omega⟩
          have gl := get_of kn i4
          rw [hget] at gl
          simp (disch := omega) [vT_alt, gl]
          refine named2_does l m _ _ (names4_in l hln) (by omega) ?_
          intro y b hy
          simp (disch := omega)
          exact ret_of (h y _ (by omega) dd)
        · skip
          refine nx_does s z _ _ dd.src ?_
          intro m N9 _ hm e9
          have hm := hm (by omega)
          have dd := dd.trans e9
          have kn := e9.at nbn kn
          have k5 := e9.at nb5 k5
          obtain ⟨m, rfl⟩ : ∃ k : Nat, m = k := ⟨m.toNat, by omega⟩
          have gl := get_of kn i4
          rw [hget] at gl
          simp (disch := omega) [vT_alt, gl]
          refine named2_does l m _ _ (names4_in l hln) (by omega) ?_
          intro y b hy
          simp (disch := omega)
          exact ret_of (h y _ (by omega) dd)
    · skip
      refine nx_does s 4 _ _ dd.src ?_
      intro y2 N2 _ hy2 e2
      have hy2 := hy2 (by omega)
      have dd := dd.trans e2
      have kn := e2.at nbn kn
      obtain ⟨l, hln, i4, rfl, hget⟩ := name_at2 hy2
      have gl := get_of kn i4
      rw [hget] at gl
      simp (disch := omega) [vT_alt, gl]
      refine ⟨?_, ?_⟩
      · skip
        intro b5 hb5
        have sb := (Sub.refl N2).put hb5 (.cells true (ints [12, 30, 61]) 3)
        have k5 := put_same N2 b5 (.cells true (ints [12, 30, 61]) 3)
        have nb5 : b5 ≠ s.b := by rintro rfl; exact dd.src.told hb5
        refine ⟨sb, ?_⟩
        have dd := dd.trans (DrR.sub dd.src sb)
        have kn := sb _ _ kn
        simp only [ints, List.map_cons, List.map_nil] at sb k5 dd kn
        generalize N2.put b5 (.cells true [.int .i64 12, .int .i64 30, .int .i64 61] 3) = N5 at *
        have gl := get_of kn i4
        rw [hget] at gl
        simp (disch := omega) [vT_alt, gl]
        have r5 := rd_del (n := 3) k5 nb5 rfl (Nat.le_refl 3)
        refine pick_does s _ [12, 30, 61] _ _ dd.src r5 (by simp) (by simp) ?_
        intro z hz N8 e8
        have hz : 1 ≤ z ∧ z ≤ 61 := by
          simp only [List.mem_cons, List.not_mem_nil, or_false] at hz
          omega
        have dd := dd.trans e8
        have kn := e8.at nbn kn
        have k5 := e8.at nb5 k5
        have gl := get_of kn i4
        rw [hget] at gl
        simp (disch := omega) [vT_alt, gl]
        refine nx_does s z _ _ dd.src ?_
        intro m N9 _ hm e9
        have hm := hm (by omega)
        have dd := dd.trans e9
        have kn := e9.at nbn kn
        have k5 := e9.at nb5 k5
        obtain ⟨m, rfl⟩ : ∃ k : Nat, m = k := ⟨m.toNat, by omega⟩
        have gl := get_of kn i4
        rw [hget] at gl
        simp (disch := omega) [vT_alt, gl]
        refine named2_does l m _ _ (names4_in l hln) (by omega) ?_
        intro y b hy
        simp (disch := omega)
        exact ret_of (h y _ (by omega) dd)
      · skip
        intro b5 hb5
        have sb := (Sub.refl N2).put hb5 (.cells true (ints [12, 30, 61]) 3)
        have k5 := put_same N2 b5 (.cells true (ints [12, 30, 61]) 3)
        have nb5 : b5 ≠ s.b := by rintro rfl; exact dd.src.told hb5
        refine ⟨sb, ?_⟩
        have dd := dd.trans (DrR.sub dd.src sb)
        have kn := sb _ _ kn
        simp only [ints, List.map_cons, List.map_nil] at sb k5 dd kn
        generalize N2.put b5 (.cells true [.int .i64 12, .int .i64 30, .int .i64 61] 3) = N5 at *
        have gl := get_of kn i4
        rw [hget] at gl
        simp (disch := omega) [vT_alt, gl]
        refine ⟨?_, ?_⟩
        · skip
          have r5 := rd_del (n := 3) k5 nb5 rfl (Nat.le_refl 3)
          refine pick_does s _ [12, 30, 61] _ _ dd.src r5 (by simp) (by simp) ?_
          intro z hz N8 e8
          have hz : 1 ≤ z ∧ z ≤ 61 := by
            simp only [List.mem_cons, List.not_mem_nil, or_false] at hz
            omega
          have dd := dd.trans e8
          have kn := e8.at nbn kn
          have k5 := e8.at nb5 k5
          have gl := get_of kn i4
          rw [hget] at gl
          simp (disch := omega) [vT_alt, gl]
          refine nx_does s z _ _ dd.src ?_
          intro m N9 _ hm e9
          have hm := hm (by omega)
          have dd := dd.trans e9
          have kn := e9.at nbn kn
          have k5 := e9.at nb5 k5
          obtain ⟨m, rfl⟩ : ∃ k : Nat, m = k := ⟨m.toNat, by omega⟩
          have gl := get_of kn i4
          rw [hget] at gl
          simp (disch := omega) [vT_alt, gl]
          refine named2_does l m _ _ (names4_in l hln) (by omega) ?_
          intro y b hy
          simp (disch := omega)
          exact ret_of (h y _ (by omega) dd)
        · skip
          have r5 := rd_del (n := 3) k5 nb5 rfl (Nat.le_refl 3)
          refine pick_does s _ [12, 30, 61] _ _ dd.src r5 (by simp) (by simp) ?_
          intro z hz N8 e8
          have hz : 1 ≤ z ∧ z ≤ 61 := by
            simp only [List.mem_cons, List.not_mem_nil, or_false] at hz
            omega
          have dd := dd.trans e8
          have kn := e8.at nbn kn
          have k5 := e8.at nb5 k5
          have gl := get_of kn i4
          rw [hget] at gl
          simp (disch := omega) [vT_alt, gl]
          refine ⟨?_, ?_⟩
          · skip
            refine nx_does s z _ _ dd.src ?_
            intro m N9 _ hm e9
            have hm := hm (by omega)
            have dd := dd.trans e9
            have kn := e9.at nbn kn
            have k5 := e9.at nb5 k5
            obtain ⟨m, rfl⟩ : ∃ k : Nat, m = k := ⟨m.toNat, by omega⟩
            have gl := get_of kn i4
            rw [hget] at gl
            simp (disch := omega) [vT_alt, gl]
            refine named2_does l m _ _ (names4_in l hln) (by omega) ?_
            intro y b hy
            simp (disch := omega)
            exact ret_of (h y _ (by omega) dd)
          · skip
            refine nx_does s z _ _ dd.src ?_
            intro m N9 _ hm e9
            have hm := hm (by omega)
            have dd := dd.trans e9
            have kn := e9.at nbn kn
            have k5 := e9.at nb5 k5
            obtain ⟨m, rfl⟩ : ∃ k : Nat, m = k := ⟨m.toNat, by omega⟩
            have gl := get_of kn i4
            rw [hget] at gl
            simp (disch := omega) [vT_alt, gl]
            refine named2_does l m _ _ (names4_in l hln) (by omega) ?_
            intro y b hy
            simp (disch := omega)
            exact ret_of (h y _ (by omega) dd)
  by_cases x1 : x = 1
  · simp (disch := omega) [x1]
    refine nx_does s 6 _ _ d1.src ?_
    intro y M2 _ hy d2
    have hy := hy (by omega)
    have d2 := d1.trans d2
    simp (disch := omega)
    intro bn hbn
    simp (disch := omega)
    have r5 := rd_fresh d2.src (w := true) (xs := ints [2, 2, 3]) (n := 3) (c := 3) hbn rfl (Nat.le_refl 3)
    have d3 : DrR s M (M2.put bn (.cells true (ints [2, 2, 3]) 3)) := d2.trans (DrR.sub d2.src ((Sub.refl _).put hbn _))
    refine pick_does s _ [2, 2, 3] _ _ d3.src r5 (by simp) (by simp) ?_
    intro z hz M3 d4
    have hz : z ≤ 3 := by
      simp only [List.mem_cons, List.not_mem_nil, or_false] at hz
      omega
    have d4 := d3.trans d4
    simp (disch := omega)
    refine drawOf_does s (1 + y) z _ _ d4.src (by omega) (by omega) ?_
    intro u M4 hu _ d5
    have d5 := d4.trans d5
    simp (disch := omega)
    refine nx_does s 4 _ _ d5.src ?_
    intro n M5 _ hn d6
    have hn := hn (by omega)
    have d6 := d5.trans d6
    obtain ⟨n, rfl⟩ : ∃ k : Nat, n = k := ⟨n.toNat, by omega⟩
    have hu6 : u.length ≤ 6 := by omega
    have hu1 : 1 ≤ u.length := by omega
    simp (disch := omega)
    refine loop_to tab_ok [7, 8, 43, 44, 45, 46, 47, 48, 49] (fun x : Nat × List UInt8 => [(8, .int .i64 (1 + (n : Int) - x.1)), (7, str x.2)]) (fun x M' => M5 = M' ∧ x.1 ≤ n + 1 ∧ x.2.length ≤ 6 * x.1) (fun x => n + 1 - x.1) (0, []) (by kernel_rfl) (by simp (disch := omega)) ⟨rfl, by omega, by simp⟩ ?_
    rintro ⟨i, w⟩ M' g ⟨rfl, hi, hw⟩
    simp only at hi hw
    by_cases hlt : i < n + 1
    · have hg0 : (0 : Int) < 1 + (n : Int) - i := by omega
      simp (disch := omega) [hg0]
      refine Rnd.mk' (i + 1, w ++ u) (by simp only; omega) (by (repeat (first | exact km | refine kp rfl ?_ | refine km' rfl ?_))) (by simp (disch := omega); omega) ⟨rfl, by simp only; omega, by simp only [List.length_append]; omega⟩
    · have hg0 : ¬ (0 : Int) < 1 + (n : Int) - i := by omega
      simp (disch := omega) [hg0]
      refine nx_does s _ _ _ d6.src ?_
      intro q M6 _ hq d7
      have hq := hq (by omega)
      obtain ⟨q, rfl⟩ : ∃ k : Nat, q = k := ⟨q.toNat, by omega⟩
      simp (disch := omega)
      refine ret_of (h _ _ ?_ (d6.trans d7))
      simp only [List.length_append, List.length_take]
      omega
  by_cases x2 : x = 2
  · simp (disch := omega) [x2]
    refine nx_does s 12 _ _ d1.src ?_
    intro y M2 _ hy d2
    have hy := hy (by omega)
    have d2 := d1.trans d2
    simp (disch := omega)
    intro bn hbn
    simp (disch := omega)
    have r5 := rd_fresh d2.src (w := true) (xs := ints [2, 2, 3]) (n := 3) (c := 3) hbn rfl (Nat.le_refl 3)
    have d3 : DrR s M (M2.put bn (.cells true (ints [2, 2, 3]) 3)) := d2.trans (DrR.sub d2.src ((Sub.refl _).put hbn _))
    refine pick_does s _ [2, 2, 3] _ _ d3.src r5 (by simp) (by simp) ?_
    intro z hz M3 d4
    have hz : z ≤ 3 := by
      simp only [List.mem_cons, List.not_mem_nil, or_false] at hz
      omega
    have d4 := d3.trans d4
    simp (disch := omega)
    refine drawOf_does s y z _ _ d4.src (by omega) (by omega) ?_
    intro u M4 hu _ d5
    have d5 := d4.trans d5
    simp (disch := omega)
    refine nx_does s 2 _ _ d5.src ?_
    intro n M5 _ hn d6
    have hn := hn (by omega)
    have d6 := d5.trans d6
    simp (disch := omega)
    refine drawOf_does s n 2 _ _ d6.src (by omega) (by omega) ?_
    intro t M6 ht _ d7
    have d7 := d6.trans d7
    have hu11 : u.length ≤ 11 := by omega
    have ht1 : t.length ≤ 1 := by omega
    simp (disch := omega)
    refine l01Reversed_does u _ _ (by omega) ?_
    intro M7 s7
    have hru : u.reverse.length = u.length := List.length_reverse
    generalize u.reverse = u' at *
    simp (disch := omega)
    refine ret_of (h _ _ ?_ (d7.trans (DrR.sub d7.src s7)))
    simp only [List.length_append]
    omega
  by_cases x3 : x = 3
  · simp (disch := omega) [x3]
    intro bn hbn
    simp (disch := omega)
    have r5 := rd_fresh d1.src (w := true) (xs := ints [20, 40, 61]) (n := 3) (c := 3) hbn rfl (Nat.le_refl 3)
    have d3 : DrR s M (M1.put bn (.cells true (ints [20, 40, 61]) 3)) := d1.trans (DrR.sub d1.src ((Sub.refl _).put hbn _))
    refine pick_does s _ [20, 40, 61] _ _ d3.src r5 (by simp) (by simp) ?_
    intro z hz M3 d4
    have hz : 1 ≤ z ∧ z ≤ 61 := by
      simp only [List.mem_cons, List.not_mem_nil, or_false] at hz
      omega
    have d4 := d3.trans d4
    simp (disch := omega)
    refine nx_does s z _ _ d4.src ?_
    intro y M4 _ hy d5
    have hy := hy (by omega)
    have d5 := d4.trans d5
    simp (disch := omega)
    intro b2 hb2
    simp (disch := omega)
    have r6 := rd_fresh d5.src (w := true) (xs := ints [1, 2, 2, 3, 3, 4, 5]) (n := 7) (c := 7) hb2 rfl (Nat.le_refl 7)
    have d6 : DrR s M (M4.put b2 (.cells true (ints [1, 2, 2, 3, 3, 4, 5]) 7)) := d5.trans (DrR.sub d5.src ((Sub.refl _).put hb2 _))
    refine pick_does s _ [1, 2, 2, 3, 3, 4, 5] _ _ d6.src r6 (by simp) (by simp) ?_
    intro k hk M5 d7
    have hk : k ≤ 5 := by
      simp only [List.mem_cons, List.not_mem_nil, or_false] at hk
      omega
    have d7 := d6.trans d7
    simp (disch := omega)
    refine drawOf_does s y k _ _ d7.src (by omega) (by omega) ?_
    intro w M6 hw _ d8
    simp (disch := omega)
    exact ret_of (h w _ (by omega) (d7.trans d8))
  · simp (disch := omega) [x0, x1, x2, x3]
    refine small_does s _ _ d1.src ?_
    intro w M2 hw d2
    simp (disch := omega)
    exact ret_of (h w _ (by omega) (d1.trans d2))
theorem spoil_does (s : Rng) (M : Mem) (R : Value → Mem → Prop) (hs : SrcR M s) (h : ∀ w M', (w : List UInt8).length ≤ 200 → DrR s M M' → R (str w) M') : Does Tryz.prog 81 [.pointer (some ⟨s.b, 0, none⟩)] M R := by
  refine does_fn tab_ok Tryz.func81 rfl (by kernel_rfl) (by kernel_rfl) Tryz.ntmps81 Tryz.results81 rfl ?_
  simp (disch := omega)
  refine drawW_does s _ _ hs ?_
  intro w M1 hw d1
  simp (disch := omega)
  refine bad_does s w _ _ d1.src (by omega) ?_
  intro u M2 hu d2
  simp (disch := omega)
  exact ret_of (h u _ (by omega) (d1.trans d2))
end Go.Proofs.YthpcojnpiggaiaaGreat

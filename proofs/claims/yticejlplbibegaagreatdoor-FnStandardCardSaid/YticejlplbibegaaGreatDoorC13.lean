/- Contracts: morphisms: their sizes, their copies, whether they are morphisms. -/
import Derived.Test.YticejlplbibegaaGreatDoorCB
import Derived.Test.YticejlplbibegaaGreatDoorEB
namespace Go.Proofs.YticejlplbibegaaGreatDoor
open Go
set_option linter.unusedSimpArgs false
set_option linter.unusedVariables false

def fewB (l : List UInt8) (m : Nat) : Bool := l.all fun u => decide (u.toNat - 97 < m)
/-- May a word be an image, of a morphism of n letters? -/
def okW (n : Nat) (w : List UInt8) : Bool := decide (w.length ≤ 12) && (isWord w && fewB w n)
def isMor (ws : List (List UInt8)) : Bool := decide (1 ≤ ws.length ∧ ws.length ≤ 5) && ws.all (okW ws.length)
theorem few_no {l : List UInt8} {m i : Nat} (hi : i < l.length) (h : ¬ l[i].toNat - 97 < m) : fewB l m = false := by
  unfold fewB
  rw [List.all_eq_false]
  exact ⟨_, List.getElem_mem hi, by simpa using h⟩
theorem l06Few_does (l : List UInt8) (m : Nat) (M : Mem) (R : Value → Mem → Prop) (hl : l.length ≤ 1099511627776) (hw : l.all isL = true) (hm : m ≤ 1099511627776) (h : R (.bool (fewB l m)) M) : Does Tryz.prog 124 [str l, .int .i64 m] M R := by
  refine does_fn tab_ok Tryz.func124 rfl (by kernel_rfl) (by kernel_rfl) Tryz.ntmps124 Tryz.results124 rfl ?_
  simp (disch := omega)
  refine loop_to tab_ok [4, 5, 6, 7, 8, 9, 10, 11, 12, 13, 14, 15, 16, 17, 18] (fun i : Nat => [(5, .int .i64 i)]) (fun i M' => M' = M ∧ i ≤ l.length ∧ ∀ u ∈ l.take i, u.toNat - 97 < m) (fun i => l.length - i) 0 (by kernel_rfl) (by simp (disch := omega)) ⟨rfl, by omega, by simp⟩ ?_
  rintro i M' g ⟨rfl, hi, hp⟩
  by_cases hlt : i < l.length
  · have hx : l[i]? = some l[i] := List.getElem?_eq_getElem hlt
    have hr := isL_range (List.all_eq_true.1 hw _ (List.getElem_mem hlt))
    by_cases hq : l[i].toNat - 97 < m
    · have hq' : ¬ (m : Int) ≤ (l[i].toNat : Int) - 97 := by omega
      simp (disch := omega) [hx, hq']
      refine Rnd.mk' (i + 1) (by omega) (by (repeat (first | exact km | refine kp rfl ?_ | refine km' rfl ?_))) (by simp (disch := omega)) ⟨rfl, by omega, ?_⟩
      rw [take_snoc l hlt]
      intro u hu
      rcases List.mem_append.1 hu with hu | hu
      · exact hp u hu
      · rw [List.mem_singleton.1 hu]; exact hq
    · have hq' : (m : Int) ≤ (l[i].toNat : Int) - 97 := by omega
      rw [few_no hlt hq] at h
      simp (disch := omega) [hx, hq']
      exact ret_of h
  · have hi' : i = l.length := by omega
    subst hi'
    rw [List.take_length] at hp
    have : fewB l m = true := by unfold fewB; rw [List.all_eq_true]; intro u hu; simpa using hp u hu
    rw [this] at h
    simp (disch := omega)
    exact ret_of h
theorem l06Is_does (v : Value) (ws : List (List UInt8)) (M : Mem) (R : Value → Mem → Prop) (hv : Rd M v (strs ws)) (hf : Fine ws) (hn : ws.length ≤ 1099511627776) (h : R (.bool (isMor ws)) M) : Does Tryz.prog 70 [.agg #[v]] M R := by
  refine does_fn tab_ok Tryz.func70 rfl (by kernel_rfl) (by kernel_rfl) Tryz.ntmps70 Tryz.results70 rfl ?_
  obtain ⟨a, c, rfl, ha⟩ := hv.opened
  rw [strs_length] at ha ⊢
  simp (disch := omega)
  intro b1 hb1
  have hs := (Sub.refl M).put hb1 (.cells true [.slice a ws.length c] 1)
  unfold isMor at h
  by_cases h1 : ws.length < 1
  · rw [decide_eq_false (by omega : ¬ (1 ≤ ws.length ∧ ws.length ≤ 5)), Bool.false_and] at h
    have h1' : (ws.length : Int) < 1 := by omega
    simp (disch := omega) [h1']
    exact ret_sub hs h
  have h1' : ¬ (ws.length : Int) < 1 := by omega
  by_cases h5 : 5 < ws.length
  · rw [decide_eq_false (by omega : ¬ (1 ≤ ws.length ∧ ws.length ≤ 5)), Bool.false_and] at h
    have h5' : (5 : Int) < ws.length := by omega
    simp (disch := omega) [h1', h5']
    exact ret_sub hs h
  have h5' : ¬ (5 : Int) < ws.length := by omega
  rw [decide_eq_true (by omega : 1 ≤ ws.length ∧ ws.length ≤ 5), Bool.true_and] at h
  simp (disch := omega) [h1', h5']
  refine loop_to tab_ok [2, 4, 14, 15, 16, 17, 18, 19, 20, 21, 22, 23, 24, 25, 26, 27, 28, 29, 30, 31, 32, 33, 34, 35, 36, 37, 38, 39, 40, 41, 42, 43, 44] (fun i : Nat => [(4, .int .i64 i)]) (fun i M' => M' = M.put b1 (.cells true [.slice a ws.length c] 1) ∧ i ≤ ws.length ∧ ∀ w ∈ ws.take i, okW ws.length w = true) (fun i => ws.length - i) 0 (by kernel_rfl) (by simp (disch := omega)) ⟨rfl, by omega, by simp⟩ ?_
  rintro i M' g ⟨rfl, hi, hp⟩
  by_cases hlt : i < ws.length
  · rcases ha with h0 | ⟨b, o, rfl, ha⟩
    · omega
    have hx : ws[i]? = some ws[i] := List.getElem?_eq_getElem hlt
    have hg0 := ha i hlt
    rw [strs_get, hx] at hg0
    have hne : b ≠ b1 := by rintro rfl; unfold Mem.get? at hg0; rw [hb1] at hg0; cases hg0
    have hg : (M.put b1 (.cells true [.slice (some ⟨b, o, none⟩) ws.length c] 1)).get? b (o + i) = some (str ws[i]) := by
      unfold Mem.get? at hg0 ⊢
      rw [put_ne _ _ hne]
      exact hg0
    have hwl := hf _ (List.getElem_mem hlt)
    have bad : okW ws.length ws[i] = false → ws.all (okW ws.length) = false := by
      intro hb
      rw [List.all_eq_false]
      exact ⟨_, List.getElem_mem hlt, by rw [hb]; simp⟩
    by_cases h12 : ws[i].length ≤ 12
    · have h12' : ¬ (12 : Int) < ws[i].length := by omega
      simp (disch := omega) [hg, h12']
      refine l01Is_does ws[i] _ _ hwl ?_
      cases hiw : isWord ws[i]
      · rw [bad (by unfold okW; rw [hiw, Bool.false_and, Bool.and_false])] at h
        simp (disch := omega)
        exact ret_sub hs h
      · simp (disch := omega) [hg]
        refine l06Few_does ws[i] ws.length _ _ hwl (isWord_all hiw) (by omega) ?_
        cases hfe : fewB ws[i] ws.length
        · rw [bad (by unfold okW; rw [hfe, Bool.and_false, Bool.and_false])] at h
          simp (disch := omega)
          exact ret_sub hs h
        · simp (disch := omega)
          refine Rnd.mk' (i + 1) (by omega) (by (repeat (first | exact km | refine kp rfl ?_ | refine km' rfl ?_))) (by simp (disch := omega)) ⟨rfl, by omega, ?_⟩
          rw [take_snoc ws hlt]
          intro w hw
          rcases List.mem_append.1 hw with hw | hw
          · exact hp w hw
          · unfold okW; rw [List.mem_singleton.1 hw, decide_eq_true h12, hiw, hfe]; rfl
    · have h12' : (12 : Int) < ws[i].length := by omega
      rw [bad (by unfold okW; rw [decide_eq_false h12, Bool.false_and])] at h
      simp (disch := omega) [hg, h12']
      exact ret_sub hs h
  · have hi' : i = ws.length := by omega
    subst hi'
    rw [List.take_length] at hp
    rw [List.all_eq_true.2 hp] at h
    simp (disch := omega)
    exact ret_sub hs h
theorem letters_does (v : Value) (xs : List Value) (M : Mem) (R : Value → Mem → Prop) (hv : Rd M v xs) (hn : xs.length ≤ 1099511627776) (h : R (.int .i64 xs.length) M) : Does Tryz.prog 79 [.agg #[v]] M R := by
  refine does_fn tab_ok Tryz.func79 rfl (by kernel_rfl) (by kernel_rfl) Tryz.ntmps79 Tryz.results79 rfl ?_
  obtain ⟨a, c, rfl, ha⟩ := hv.opened
  simp (disch := omega)
  intro b1 hb1
  simp (disch := omega)
  exact ret_sub ((Sub.refl M).put hb1 _) h
theorem has_does (v : Value) (xs : List Value) (l : List UInt8) (M : Mem) (R : Value → Mem → Prop) (hv : Rd M v xs) (hn : xs.length ≤ 1099511627776) (hl : l.length ≤ 1099511627776) (hw : l.all isL = true) (h : R (.bool (fewB l xs.length)) M) : Does Tryz.prog 83 [.agg #[v], str l] M R := by
  refine does_fn tab_ok Tryz.func83 rfl (by kernel_rfl) (by kernel_rfl) Tryz.ntmps83 Tryz.results83 rfl ?_
  obtain ⟨a, c, rfl, ha⟩ := hv.opened
  simp (disch := omega)
  intro b1 hb1
  simp (disch := omega)
  intro b2 c2 hb2 hc2
  have hne : b1 ≠ b2 := by rintro rfl; rw [put_same] at hb2; cases hb2
  simp (disch := omega)
  have hs1 : Sub M (M.put b1 (.cells true [.slice a xs.length c] 1)) := (Sub.refl M).put hb1 _
  refine areAllB_does _ _ (bytesV l) (onB fun u => decide (u.toNat - 97 < xs.length)) (fun M' => M' b1 = some (.cells true [.slice a xs.length c] 1) ∧ Rd M' (.slice a xs.length c) xs) _ _ (Rd.new (bytesV_length l) (by simp (disch := omega) at hc2; omega)) ⟨by rw [put_ne _ _ hne, put_same], (hv.put hb1 _).put hb2 _⟩ ?_ ?_ rfl (by rw [bytesV_length]; omega) ?_
  · intro N b B ⟨q1, q2⟩ hb
    have : b1 ≠ b := by rintro rfl; rw [hb] at q1; cases q1
    exact ⟨by rw [put_ne _ _ this, q1], q2.put hb _⟩
  · intro x hx N R' ⟨q1, q2⟩ hR'
    obtain ⟨u, hu, rfl⟩ := mem_bytes hx
    rw [onB_byte] at hR'
    have hr := isL_range (List.all_eq_true.1 hw _ hu)
    simp (disch := omega)
    refine does_fn tab_ok Tryz.func136 rfl (by kernel_rfl) (by kernel_rfl) Tryz.ntmps136 Tryz.results136 rfl ?_
    simp (disch := omega)
    refine draw_to tab_ok (by kernel_rfl) (by kernel_rfl) (by rfl) ?_
    simp (disch := omega)
    refine vQCall_at (a := []) (c := []) (number_does u _ _ ⟨rfl, rfl⟩) ?_
    simp (disch := omega) [sub_of q1]
    refine vQCall_at (a := []) (c := []) (letters_does _ xs _ _ q2 hn ⟨rfl, rfl⟩) ?_
    have e : decide (u.toNat - 97 < xs.length) = decide ((u.toNat : Int) - 97 < xs.length) := by rw [decide_eq_decide]; omega
    rw [e] at hR'
    simp (disch := omega)
    exact ret_of hR'
  · rw [all_bytes]
    simp (disch := omega)
    exact ret_sub (hs1.putN hb2 _) h
theorem isLetters_does (n : Int) (M : Mem) (R : Value → Mem → Prop) (h : R (.bool (decide (1 ≤ n ∧ n ≤ 5))) M) : Does Tryz.prog 78 [.int .i64 n] M R := by
  refine does_fn tab_ok Tryz.func78 rfl (by kernel_rfl) (by kernel_rfl) Tryz.ntmps78 Tryz.results78 rfl ?_
  simp (disch := omega)
  refine within_does _ _ _ _ _ ?_
  simp (disch := omega)
  exact ret_of (by simpa using h)
theorem isMorphism_does (v : Value) (ws : List (List UInt8)) (M : Mem) (R : Value → Mem → Prop) (hv : Rd M v (strs ws)) (hf : Fine ws) (hn : ws.length ≤ 1099511627776) (h : R (.bool (isMor ws)) M) : Does Tryz.prog 22 [.agg #[v]] M R := by
  refine does_fn tab_ok Tryz.func22 rfl (by kernel_rfl) (by kernel_rfl) Tryz.ntmps22 Tryz.results22 rfl ?_
  obtain ⟨a, c, rfl, ha⟩ := hv.opened
  rw [strs_length] at ha hv ⊢
  simp (disch := omega)
  intro b1 hb1
  have hs1 : Sub M (M.put b1 (.cells true [.slice a ws.length c] 1)) := (Sub.refl M).put hb1 _
  simp (disch := omega)
  refine letters_does _ (strs ws) _ _ (hv.put hb1 _) (by rw [strs_length]; omega) ?_
  rw [strs_length]
  simp (disch := omega)
  refine isLetters_does _ _ _ ?_
  unfold isMor at h
  by_cases h15 : 1 ≤ ws.length ∧ ws.length ≤ 5
  · rw [decide_eq_true h15, Bool.true_and] at h
    have e : decide (1 ≤ (ws.length : Int) ∧ (ws.length : Int) ≤ 5) = true := decide_eq_true (by omega)
    rw [e]
    simp (disch := omega)
    refine areAllS_does _ _ (strs ws) (onS (okW ws.length)) (fun M' => M' b1 = some (.cells true [.slice a ws.length c] 1) ∧ Rd M' (.slice a ws.length c) (strs ws)) _ _ (hv.put hb1 _) ⟨put_same _ _ _, hv.put hb1 _⟩ ?_ ?_ rfl (by rw [strs_length]; omega) ?_
    · intro N b B ⟨q1, q2⟩ hb
      have : b1 ≠ b := by rintro rfl; rw [hb] at q1; cases q1
      exact ⟨by rw [put_ne _ _ this, q1], q2.put hb _⟩
    · intro x hx N R' ⟨q1, q2⟩ hR'
      obtain ⟨w, hw, rfl⟩ := mem_strs hx
      rw [onS_str] at hR'
      unfold okW at hR'
      have hwl := hf w hw
      simp (disch := omega)
      refine does_fn tab_ok Tryz.func81 rfl (by kernel_rfl) (by kernel_rfl) Tryz.ntmps81 Tryz.results81 rfl ?_
      simp (disch := omega)
      refine isWord_does w _ _ hwl ?_
      cases hiw : isWord w
      · rw [hiw, Bool.false_and, Bool.and_false] at hR'
        simp (disch := omega)
        exact ret_of hR'
      · rw [hiw, Bool.true_and] at hR'
        by_cases h12 : w.length ≤ 12
        · have h12' : (w.length : Int) ≤ 12 := by omega
          rw [decide_eq_true h12, Bool.true_and] at hR'
          simp (disch := omega) [h12', sub_of q1]
          refine has_does _ (strs ws) w _ _ q2 (by rw [strs_length]; omega) hwl (isWord_all hiw) ?_
          rw [strs_length]
          simp (disch := omega)
          exact ret_of hR'
        · have h12' : ¬ (w.length : Int) ≤ 12 := by omega
          rw [decide_eq_false h12, Bool.false_and] at hR'
          simp (disch := omega) [h12']
          exact ret_of hR'
    · rw [all_strs]
      simp (disch := omega)
      exact ret_sub hs1 h
  · rw [decide_eq_false h15, Bool.false_and] at h
    have e : decide (1 ≤ (ws.length : Int) ∧ (ws.length : Int) ≤ 5) = false := decide_eq_false (by omega)
    rw [e]
    simp (disch := omega)
    exact ret_sub hs1 h
/-- What is left of a bound behind the sizes of strings; below zero where it is too small. -/
def szS (left : Int) (ws : List (List UInt8)) : Int := left - ws.length - (ws.map List.length).sum
theorem szS_snoc (left : Int) (ws : List (List UInt8)) (w : List UInt8) : left - (ws.length : Int) - ((ws.map List.length).sum : Nat) - w.length = left - (ws.length : Int) - (((ws ++ [w]).map List.length).sum : Nat) := by
  simp; omega
def sumL (ws : List (List UInt8)) : Nat := (ws.map List.length).sum
theorem sumL_snoc (ws : List (List UInt8)) (w : List UInt8) : sumL (ws ++ [w]) = sumL ws + w.length := by simp [sumL]
theorem sumL_take (ws : List (List UInt8)) (i : Nat) : sumL (ws.take i) ≤ sumL ws := by
  have h1 : sumL (ws.take i ++ ws.drop i) = sumL (ws.take i) + sumL (ws.drop i) := by simp only [sumL, List.map_append, List.sum_append]
  rw [List.take_append_drop] at h1
  omega
theorem sumL_mem {ws : List (List UInt8)} {w : List UInt8} (h : w ∈ ws) : w.length ≤ sumL ws := by
  obtain ⟨i, hi, rfl⟩ := List.mem_iff_getElem.1 h
  have := sumL_take ws (i + 1)
  rw [take_snoc ws hi, sumL_snoc] at this
  omega
/-- The bound is kept. -/
def Small (left : Nat) (ws : List (List UInt8)) : Prop := ws.length + sumL ws ≤ left
theorem spec_IsMorphism (v : Value) (ws : List (List UInt8)) (M : Mem) (R : Value → Mem → Prop) (hv : Rd M v (strs ws)) (hf : Fine ws) (hn : ws.length ≤ 1099511627776) (h : R (.bool (isMor ws)) M) : Does Tryz.prog 23 [.agg #[v]] M R := by
  refine does_fn tab_ok Tryz.func23 rfl (by kernel_rfl) (by kernel_rfl) Tryz.ntmps23 Tryz.results23 rfl ?_
  obtain ⟨a, c, rfl, ha⟩ := hv.opened
  simp (disch := omega)
  intro b1 hb1
  simp (disch := omega)
  refine l06Is_does _ ws _ _ (by have := hv.put hb1 (.cells true [.slice a (strs ws).length c] 1); simpa using this) hf hn ?_
  simp (disch := omega)
  exact ret_sub (by have := (Sub.refl M).put hb1 (.cells true [.slice a (strs ws).length c] 1); simpa using this) h
end Go.Proofs.YticejlplbibegaaGreatDoor

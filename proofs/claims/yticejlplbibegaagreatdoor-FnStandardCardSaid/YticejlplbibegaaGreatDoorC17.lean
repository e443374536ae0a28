/- Contracts: images of words. -/
import Derived.Test.YticejlplbibegaaGreatDoorC6
import Derived.Test.YticejlplbibegaaGreatDoorC13
namespace Go.Proofs.YticejlplbibegaaGreatDoor
open Go
set_option linter.unusedSimpArgs false
set_option linter.unusedVariables false

def codeM (ws : List (List UInt8)) (w : List UInt8) : Int := if isMor ws && isWord w then (if fewB w ws.length then 0 else 2) else 1
def codeI (ws : List (List UInt8)) (w : List UInt8) (k : Int) : Int := if isMor ws && isWord w then (if fewB w ws.length && decide (0 ≤ k ∧ k ≤ 100) then 0 else 2) else 1
theorem mor_len {ws : List (List UInt8)} (h : isMor ws = true) : 1 ≤ ws.length ∧ ws.length ≤ 5 := by
  unfold isMor at h; rw [Bool.and_eq_true, decide_eq_true_eq] at h; exact h.1
theorem mor_ok {ws : List (List UInt8)} (h : isMor ws = true) {w : List UInt8} (hw : w ∈ ws) : w.length ≤ 12 ∧ isWord w = true ∧ fewB w ws.length = true := by
  unfold isMor at h
  rw [Bool.and_eq_true] at h
  have := List.all_eq_true.1 h.2 w hw
  unfold okW at this
  simpa using this
/-- Letters that have images. -/
def Lt (ws : List (List UInt8)) (l : List UInt8) : Prop := ∀ u ∈ l, 97 ≤ u.toNat ∧ u.toNat - 97 < ws.length
theorem lt_of {ws : List (List UInt8)} {l : List UInt8} (hw : l.all isL = true) (hf : fewB l ws.length = true) : Lt ws l := by
  intro u hu
  have h1 := isL_range (List.all_eq_true.1 hw u hu)
  have h2 := List.all_eq_true.1 hf u hu
  rw [decide_eq_true_eq] at h2
  exact ⟨h1.1, h2⟩
theorem img_lt {ws : List (List UInt8)} (hm : isMor ws = true) {l : List UInt8} (h : Lt ws l) : Lt ws (imgOf ws l) := by
  intro u hu
  unfold imgOf at hu
  obtain ⟨v, hv, hu⟩ := List.mem_flatMap.1 hu
  have := mor_ok hm (getD_mem (h v hv).2)
  exact lt_of (isWord_all this.2.1) this.2.2 u hu
theorem img_len {ws : List (List UInt8)} (hm : isMor ws = true) : ∀ {l : List UInt8}, Lt ws l → (imgOf ws l).length ≤ 12 * l.length
  | [], _ => Nat.le_refl _
  | u :: l, h => by
    have ih := img_len hm (l := l) fun v hv => h v (List.mem_cons_of_mem _ hv)
    have h1 := (mor_ok hm (getD_mem (h u (List.mem_cons_self ..)).2)).1
    rw [imgOf_cons, List.length_append, List.length_cons]
    omega
theorem lt_take {ws : List (List UInt8)} {l : List UInt8} (h : Lt ws l) (i : Nat) : Lt ws (l.take i) := fun u hu => h u (List.mem_of_mem_take hu)
theorem get_keep {M N : Mem} {b i : Nat} {v : Value} (h : M.get? b i = some v) (hs : Sub M N) : N.get? b i = some v := by
  unfold Mem.get? at h ⊢
  cases hMb : M b with
  | none => rw [hMb] at h; cases h
  | some B => rw [hMb] at h; rw [hs _ _ hMb]; exact h
theorem l06Code_does (v : Value) (ws : List (List UInt8)) (w : List UInt8) (M : Mem) (R : Value → Mem → Prop) (hv : Rd M v (strs ws)) (hf : Fine ws) (hn : ws.length ≤ 1099511627776) (hl : w.length ≤ 1099511627776) (h : R (.int .i64 (codeM ws w)) M) : Does Tryz.prog 60 [.agg #[v], str w] M R := by
  refine does_fn tab_ok Tryz.func60 rfl (by kernel_rfl) (by kernel_rfl) Tryz.ntmps60 Tryz.results60 rfl ?_
  obtain ⟨a, c, rfl, ha⟩ := hv.opened
  rw [strs_length] at ha hv ⊢
  simp (disch := omega)
  intro b1 hb1
  have hs1 : Sub M (M.put b1 (.cells true [.slice a ws.length c] 1)) := (Sub.refl M).put hb1 _
  have hv1 := hv.put hb1 (.cells true [.slice a ws.length c] 1)
  unfold codeM at h
  simp (disch := omega)
  refine l06Is_does _ ws _ _ hv1 hf hn ?_
  cases e1 : isMor ws
  · rw [e1, Bool.false_and] at h
    simp (disch := omega)
    exact ret_sub hs1 h
  · rw [e1, Bool.true_and] at h
    simp (disch := omega)
    refine l01Is_does w _ _ hl ?_
    cases e2 : isWord w
    · rw [e2] at h
      simp (disch := omega)
      exact ret_sub hs1 h
    · rw [e2, if_pos rfl] at h
      simp (disch := omega)
      refine l06Few_does w ws.length _ _ hl (isWord_all e2) (by omega) ?_
      cases e3 : fewB w ws.length
      · rw [e3] at h
        simp (disch := omega)
        exact ret_sub hs1 h
      · rw [e3] at h
        simp (disch := omega)
        exact ret_sub hs1 h
theorem l06Image_does (v : Value) (ws : List (List UInt8)) (l : List UInt8) (M : Mem) (R : Value → Mem → Prop) (hv : Rd M v (strs ws)) (hm : isMor ws = true) (hl : l.length ≤ 60) (hlt : Lt ws l) (h : R (str (imgOf ws l)) M) : Does Tryz.prog 61 [.agg #[v], str l] M R := by
  refine does_fn tab_ok Tryz.func61 rfl (by kernel_rfl) (by kernel_rfl) Tryz.ntmps61 Tryz.results61 rfl ?_
  obtain ⟨a, c, rfl, ha⟩ := hv.opened
  have h15 := mor_len hm
  rw [strs_length] at ha hv ⊢
  simp (disch := omega)
  intro b1 hb1
  have hs1 : Sub M (M.put b1 (.cells true [.slice a ws.length c] 1)) := (Sub.refl M).put hb1 _
  rcases ha with h0 | ⟨b, o, rfl, ha⟩
  · omega
  simp (disch := omega)
  refine loop_to tab_ok [5, 6, 7, 8, 9, 10, 11, 12, 13, 14, 15, 16, 17, 18, 19, 20, 21, 22] (fun i : Nat => [(6, .int .i64 i), (5, str (imgOf ws (l.take i)))]) (fun i M' => M' = M.put b1 (.cells true [.slice (some ⟨b, o, none⟩) ws.length c] 1) ∧ i ≤ l.length) (fun i => l.length - i) 0 (by kernel_rfl) (by simp (disch := omega) [imgOf_nil]) ⟨rfl, by omega⟩ ?_
  rintro i M' g ⟨rfl, hi⟩
  by_cases hil : i < l.length
  · have hx : l[i]? = some l[i] := List.getElem?_eq_getElem hil
    have hL := hlt _ (List.getElem_mem hil)
    have hu := l[i].toNat_lt
    have hk : ((l[i].toNat : Int) - 97).toNat = l[i].toNat - 97 := by omega
    obtain ⟨x, hx1, hxl, hsn⟩ : ∃ x, ws[l[i].toNat - 97]'hL.2 = x ∧ x.length ≤ 12 ∧ imgOf ws (l.take (i + 1)) = imgOf ws (l.take i) ++ x :=
      ⟨_, rfl, (mor_ok hm (List.getElem_mem hL.2)).1, by rw [take_snoc l hil, imgOf_snoc, List.getD_eq_getElem?_getD, List.getElem?_eq_getElem hL.2]; rfl⟩
    have hil2 := img_len hm (lt_take hlt i)
    have hil3 : (l.take i).length ≤ l.length := by rw [List.length_take]; omega
    have hg0 := ha (l[i].toNat - 97) hL.2
    rw [strs_get, List.getElem?_eq_getElem hL.2, hx1] at hg0
    have hg := get_keep hg0 hs1
    simp (disch := omega)
    refine draw_to tab_ok (by kernel_rfl) (by kernel_rfl) (by rfl) ?_
    simp (disch := omega) [hx, hk, hg]
    refine Rnd.mk' (i + 1) (by omega) (by (repeat (first | exact km | refine kp rfl ?_ | refine km' rfl ?_))) (by simp (disch := omega) [hsn]) ⟨rfl, by omega⟩
  · have hi' : i = l.length := by omega
    subst hi'
    rw [List.take_length]
    simp (disch := omega)
    exact ret_sub hs1 h
theorem image_does (v : Value) (ws : List (List UInt8)) (l : List UInt8) (M : Mem) (R : Value → Mem → Prop) (hv : Rd M v (strs ws)) (hm : isMor ws = true) (hl : l.length ≤ 60) (hlt : Lt ws l) (h : R (str (imgOf ws l)) M) : Does Tryz.prog 69 [.agg #[v], str l] M R := by
  refine does_fn tab_ok Tryz.func69 rfl (by kernel_rfl) (by kernel_rfl) Tryz.ntmps69 Tryz.results69 rfl ?_
  obtain ⟨a, c, rfl, ha⟩ := hv.opened
  have h15 := mor_len hm
  rw [strs_length] at ha hv ⊢
  simp (disch := omega)
  intro b1 hb1
  have hs1 : Sub M (M.put b1 (.cells true [.slice a ws.length c] 1)) := (Sub.refl M).put hb1 _
  rcases ha with h0 | ⟨b, o, rfl, ha⟩
  · omega
  simp (disch := omega)
  intro b2 c2 hb2 hc2
  have hs2 := hs1.putN hb2 (.cells true (bytesV l) c2)
  have e12 : b1 ≠ b2 := by rintro rfl; rw [put_same] at hb2; cases hb2
  have k1 : ((M.put b1 (.cells true [.slice (some ⟨b, o, none⟩) ws.length c] 1)).put b2 (.cells true (bytesV l) c2)) b1 = some (.cells true [.slice (some ⟨b, o, none⟩) ws.length c] 1) := (put_ne _ _ e12).trans (put_same _ _ _)
  have k2 : ((M.put b1 (.cells true [.slice (some ⟨b, o, none⟩) ws.length c] 1)).put b2 (.cells true (bytesV l) c2)) b2 = some (.cells true (bytesV l) c2) := put_same _ _ _
  simp (disch := omega)
  generalize (M.put b1 (.cells true [.slice (some ⟨b, o, none⟩) ws.length c] 1)).put b2 (.cells true (bytesV l) c2) = N at *
  refine loop_to tab_ok [5, 7, 11, 12, 13, 14, 15, 16, 17, 18, 19, 20, 21, 22, 23] (fun i : Nat => [(11, .int .i64 i), (5, str (imgOf ws (l.take i)))]) (fun i M' => M' = N ∧ i ≤ l.length) (fun i => l.length - i) 0 (by kernel_rfl) (by simp (disch := omega) [imgOf_nil]) ⟨rfl, by omega⟩ ?_
  rintro i M' g ⟨rfl, hi⟩
  by_cases hil : i < l.length
  · have hx : l[i]? = some l[i] := List.getElem?_eq_getElem hil
    have hL := hlt _ (List.getElem_mem hil)
    have hu := l[i].toNat_lt
    have hk : ((l[i].toNat : Int) - 97).toNat = l[i].toNat - 97 := by omega
    obtain ⟨x, hx1, hxl, hsn⟩ : ∃ x, ws[l[i].toNat - 97]'hL.2 = x ∧ x.length ≤ 12 ∧ imgOf ws (l.take (i + 1)) = imgOf ws (l.take i) ++ x :=
      ⟨_, rfl, (mor_ok hm (List.getElem_mem hL.2)).1, by rw [take_snoc l hil, imgOf_snoc, List.getD_eq_getElem?_getD, List.getElem?_eq_getElem hL.2]; rfl⟩
    have hil2 := img_len hm (lt_take hlt i)
    have hil3 : (l.take i).length ≤ l.length := by rw [List.length_take]; omega
    have hg0 := ha (l[i].toNat - 97) hL.2
    rw [strs_get, List.getElem?_eq_getElem hL.2, hx1] at hg0
    have hg := get_keep hg0 hs2
    simp (disch := omega) [get_of k2, hx]
    refine draw_to tab_ok (by kernel_rfl) (by kernel_rfl) (by rfl) ?_
    simp (disch := omega) [get_of k1]
    refine vQCall_at (a := []) (c := []) (number_does _ _ _ ⟨rfl, rfl⟩) ?_
    simp (disch := omega) [hk, hg]
    refine Rnd.mk' (i + 1) (by omega) (by (repeat (first | exact km | refine kp rfl ?_ | refine km' rfl ?_))) (by simp (disch := omega) [hsn]) ⟨rfl, by omega⟩
  · have hi' : i = l.length := by omega
    subst hi'
    rw [List.take_length]
    simp (disch := omega)
    exact ret_sub hs2 h
theorem morphismCode_does (v fv sv : Value) (ws us : List (List UInt8)) (b : Bool) (G : Mem → Prop) (M : Mem) (R : Value → Mem → Prop) (hv : Rd M v (strs ws)) (hf : Fine ws) (hn : ws.length ≤ 1099511627776) (hs : Rd M sv (strs us)) (hfu : Fine us) (hnu : us.length ≤ 1099511627776)
    (hfl : flatV fv = true) (hG : G M) (hst : Stab G) (ht : Tells0 Tryz.prog fv b G) (h : R (.int .i64 (if isMor ws then codeOf us (us.all (fun u => fewB u ws.length) && b) else 1)) M) : Does Tryz.prog 71 [.agg #[v], fv, sv] M R := by
  refine does_fn tab_ok Tryz.func71 rfl (by kernel_rfl) (by kernel_rfl) Tryz.ntmps71 Tryz.results71 rfl ?_
  obtain ⟨a, c, rfl, ha⟩ := hv.opened
  obtain ⟨a', c', rfl, ha'⟩ := hs.opened
  rw [strs_length] at hv hs ⊢
  rw [strs_length]
  simp (disch := omega)
  intro b3 hb3
  simp (disch := omega) [hfl]
  intro b4 hb4
  simp (disch := omega)
  intro b5 hb5
  have n4 := hb4
  have n5 := hb5
  rw [put_none] at n4
  rw [put_none, put_none] at n5
  have hs5 : Sub M (((M.put b3 (.cells true [.slice a ws.length c] 1)).put b4 (.cells true [fv] 1)).put b5 (.cells true [.slice a' us.length c'] 1)) := (((Sub.refl M).put hb3 _).putN hb4 _).putN hb5 _
  have k3 : (((M.put b3 (.cells true [.slice a ws.length c] 1)).put b4 (.cells true [fv] 1)).put b5 (.cells true [.slice a' us.length c'] 1)) b3 = some (.cells true [.slice a ws.length c] 1) := by rw [put_ne _ _ (Ne.symm n5.2.1), put_ne _ _ (Ne.symm n4.1)]; exact put_same _ _ _
  have k4 : (((M.put b3 (.cells true [.slice a ws.length c] 1)).put b4 (.cells true [fv] 1)).put b5 (.cells true [.slice a' us.length c'] 1)) b4 = some (.cells true [fv] 1) := by rw [put_ne _ _ (Ne.symm n5.1)]; exact put_same _ _ _
  have k5 : (((M.put b3 (.cells true [.slice a ws.length c] 1)).put b4 (.cells true [fv] 1)).put b5 (.cells true [.slice a' us.length c'] 1)) b5 = some (.cells true [.slice a' us.length c'] 1) := put_same _ _ _
  simp (disch := omega) [n4.1, Ne.symm n4.1, n5.1, Ne.symm n5.1, n5.2.1, Ne.symm n5.2.1]
  have hG5 := hst _ _ (.cells true [.slice a' us.length c'] 1) (hst _ _ (.cells true [fv] 1) (hst _ _ (.cells true [.slice a ws.length c] 1) hG hb3) hb4) hb5
  generalize (((M.put b3 (.cells true [.slice a ws.length c] 1)).put b4 (.cells true [fv] 1)).put b5 (.cells true [.slice a' us.length c'] 1)) = N at *
  refine isMorphism_does _ ws _ _ (hv.sub hs5) hf hn ?_
  cases hm : isMor ws
  · rw [hm] at h
    simp (disch := omega)
    exact ret_sub hs5 h
  · rw [hm, if_pos rfl] at h
    simp (disch := omega) [get_of k5]
    refine wordCode_does' _ _ us (us.all (fun u => fewB u ws.length) && b) (fun M' => Sub N M' ∧ G M') _ _ (hs.sub hs5) hfu hnu ⟨Sub.refl N, hG5⟩ ?_ ?_ ?_
    · intro K b' B ⟨q1, q2⟩ hb
      exact ⟨q1.putN hb _, hst _ _ _ q2 hb⟩
    · intro hall K R' ⟨q1, q2⟩ hR'
      have j3 := q1 _ _ k3
      have j4 := q1 _ _ k4
      have j5 := q1 _ _ k5
      simp (disch := omega)
      refine does_fn tab_ok Tryz.func127 rfl (by kernel_rfl) (by kernel_rfl) Tryz.ntmps127 Tryz.results127 rfl ?_
      simp (disch := omega) [get_of j5, sub_of j3]
      refine areAllS_does _ _ (strs us) (onS fun u => fewB u ws.length) (fun M' => Rd M' (.slice a ws.length c) (strs ws)) _ _ ((hs.sub hs5).sub q1) ((hv.sub hs5).sub q1) (fun K2 b' B q hb => q.put hb _) ?_ rfl (by rw [strs_length]; omega) ?_
      · intro x hx K2 R2 q hR2
        obtain ⟨u, hu, rfl⟩ := mem_strs hx
        rw [onS_str] at hR2
        have hwu := List.all_eq_true.1 hall u hu
        simp (disch := omega)
        refine has_does _ (strs ws) u _ _ q (by rw [strs_length]; omega) (hfu u hu) (isWord_all hwu) ?_
        rw [strs_length]
        exact hR2
      · rw [all_strs]
        cases hall2 : us.all fun u => fewB u ws.length
        · rw [hall2, Bool.false_and] at hR'
          simp (disch := omega)
          exact ret_of hR'
        · rw [hall2, Bool.true_and] at hR'
          simp (disch := omega) [get_of j4]
          refine ht _ _ q2 ?_
          simp (disch := omega)
          exact ret_of hR'
    · simp (disch := omega)
      exact ret_sub hs5 h
/-- A word's k-th image, if all images are short enough. -/
def iterW (ws : List (List UInt8)) : Nat → List UInt8 → Option (List UInt8)
  | 0, w => some w
  | k + 1, w => if 60 < (imgOf ws w).length then none else iterW ws k (imgOf ws w)
theorem iterW_zero (ws : List (List UInt8)) (w : List UInt8) : iterW ws 0 w = some w := rfl
theorem iterW_succ (ws : List (List UInt8)) (k : Nat) (w : List UInt8) : iterW ws (k + 1) w = if 60 < (imgOf ws w).length then none else iterW ws k (imgOf ws w) := rfl
def iterT (ws : List (List UInt8)) (w : List UInt8) (k : Int) : List UInt8 := if codeI ws w k = 0 then (match iterW ws k.toNat w with | some x => x | none => []) else []
def iterC (ws : List (List UInt8)) (w : List UInt8) (k : Int) : Int := if codeI ws w k = 0 then (match iterW ws k.toNat w with | some x => 0 | none => 3) else codeI ws w k
theorem codeI_zero {ws : List (List UInt8)} {w : List UInt8} {k : Int} (h : codeI ws w k = 0) : isMor ws = true ∧ isWord w = true ∧ fewB w ws.length = true ∧ 0 ≤ k ∧ k ≤ 100 := by
  unfold codeI at h
  split at h
  · rename_i h1
    split at h
    · rename_i h2
      rw [Bool.and_eq_true] at h1 h2
      rw [decide_eq_true_eq] at h2
      exact ⟨h1.1, h1.2, h2.1, h2.2.1, h2.2.2⟩
    · cases h
  · cases h
theorem iterate_does (v : Value) (ws : List (List UInt8)) (w : List UInt8) (k : Int) (M : Mem) (R : Value → Mem → Prop) (hv : Rd M v (strs ws)) (hf : Fine ws) (hn : ws.length ≤ 1099511627776) (hl : w.length ≤ 1099511627776) (h : R (tup2 (str (iterT ws w k)) (iterC ws w k)) M) : Does Tryz.prog 59 [.agg #[v], str w, .int .i64 k] M R := by
  refine does_fn tab_ok Tryz.func59 rfl (by kernel_rfl) (by kernel_rfl) Tryz.ntmps59 Tryz.results59 rfl ?_
  obtain ⟨a, c, rfl, ha⟩ := hv.opened
  rw [strs_length] at hv ⊢
  simp (disch := omega)
  intro b3 hb3
  simp (disch := omega)
  intro b5 hb5
  have n5 := hb5
  rw [put_none] at n5
  simp (disch := omega) [n5.1, Ne.symm n5.1]
  intro b12 hb12
  have n12 := hb12
  rw [put_none, put_none] at n12
  have hs : Sub M (((M.put b3 (.cells true [.slice a ws.length c] 1)).put b5 (.cells true [.int .i64 k] 1)).put b12 (.cells true [str w] 1)) := (((Sub.refl M).put hb3 _).putN hb5 _).putN hb12 _
  have k3 : (((M.put b3 (.cells true [.slice a ws.length c] 1)).put b5 (.cells true [.int .i64 k] 1)).put b12 (.cells true [str w] 1)) b3 = some (.cells true [.slice a ws.length c] 1) := by rw [put_ne _ _ (Ne.symm n12.2.1), put_ne _ _ (Ne.symm n5.1)]; exact put_same _ _ _
  have k5 : (((M.put b3 (.cells true [.slice a ws.length c] 1)).put b5 (.cells true [.int .i64 k] 1)).put b12 (.cells true [str w] 1)) b5 = some (.cells true [.int .i64 k] 1) := by rw [put_ne _ _ (Ne.symm n12.1)]; exact put_same _ _ _
  have k12 : Rd (((M.put b3 (.cells true [.slice a ws.length c] 1)).put b5 (.cells true [.int .i64 k] 1)).put b12 (.cells true [str w] 1)) (.slice (some ⟨b12, 0, none⟩) 1 1) (strs [w]) := Rd.new rfl (Nat.le_refl 1)
  simp (disch := omega) [n12.1, Ne.symm n12.1, n12.2.1, Ne.symm n12.2.1, n5.1, Ne.symm n5.1]
  generalize (((M.put b3 (.cells true [.slice a ws.length c] 1)).put b5 (.cells true [.int .i64 k] 1)).put b12 (.cells true [str w] 1)) = N at *
  refine morphismCode_does _ _ _ ws [w] (decide (0 ≤ k ∧ k ≤ 100)) (fun M' => M' b5 = some (.cells true [.int .i64 k] 1)) _ _ (hv.sub hs) hf hn k12 (fine1 hl) (by simp) rfl k5 ?_ ?_ ?_
  · intro K b' B q hb
    have : b5 ≠ b' := by rintro rfl; rw [hb] at q; cases q
    rw [put_ne _ _ this]; exact q
  · intro K R' q hR'
    simp (disch := omega)
    refine does_fn tab_ok Tryz.func122 rfl (by kernel_rfl) (by kernel_rfl) Tryz.ntmps122 Tryz.results122 rfl ?_
    simp (disch := omega) [get_of q]
    refine within_does k 0 100 _ _ ?_
    simp (disch := omega)
    exact ret_of (by simpa using hR')
  · have hcode : (if isMor ws then codeOf [w] ([w].all (fun u => fewB u ws.length) && decide (0 ≤ k ∧ k ≤ 100)) else 1) = codeI ws w k := by
      unfold codeI
      rw [codeOf1]
      simp only [List.all_cons, List.all_nil, Bool.and_true]
      cases isMor ws <;> cases isWord w <;> rfl
    rw [hcode]
    unfold iterT iterC at h
    by_cases h0 : codeI ws w k = 0
    · obtain ⟨g1, g2, g3, g4, g5⟩ := codeI_zero h0
      rw [if_pos h0, if_pos h0] at h
      have hb : (codeI ws w k == 0) = true := by rw [h0]; rfl
      rw [h0]
      obtain ⟨k, rfl⟩ : ∃ n : Nat, k = n := ⟨k.toNat, by omega⟩
      rw [Int.toNat_natCast] at h
      simp (disch := omega) [get_of k5]
      refine loop_to tab_ok [1, 6, 7, 18, 19, 20, 21, 22, 23, 24, 25, 26] (fun x : Nat × List UInt8 => [(18, .int .i64 x.1), (1, str x.2)]) (fun x M' => M' = N ∧ x.1 ≤ k ∧ x.2.length ≤ 60 ∧ Lt ws x.2 ∧ iterW ws (k - x.1) x.2 = iterW ws k w) (fun x => k - x.1) (0, w) (by kernel_rfl) (by simp (disch := omega)) ⟨rfl, by omega, isWord_len g2, lt_of (isWord_all g2) g3, rfl⟩ ?_
      rintro ⟨i, x⟩ M' g ⟨rfl, hi, hx6, hx, hit⟩
      simp only at hi hx6 hx hit
      by_cases hlt : i < k
      · have hil := img_len g1 hx
        rw [show k - i = (k - (i + 1)) + 1 by omega, iterW_succ] at hit
        simp (disch := omega) [sub_of k3]
        refine image_does _ ws x _ _ (hv.sub hs) g1 hx6 hx ?_
        by_cases hbig : 60 < (imgOf ws x).length
        · rw [if_pos hbig] at hit
          have hbig' : (60 : Int) < (imgOf ws x).length := by omega
          rw [← hit] at h
          simp (disch := omega) [hbig']
          exact ret_sub hs h
        · rw [if_neg hbig] at hit
          have hbig' : ¬ (60 : Int) < (imgOf ws x).length := by omega
          simp (disch := omega) [hbig']
          exact Rnd.mk' (i + 1, imgOf ws x) (by simp only; omega) (by (repeat (first | exact km | refine kp rfl ?_ | refine km' rfl ?_))) (by simp (disch := omega)) ⟨rfl, by simp only; omega, by simp only; omega, img_lt g1 hx, hit⟩
      · have hi' : i = k := by omega
        subst hi'
        rw [Nat.sub_self, iterW_zero] at hit
        rw [← hit] at h
        simp (disch := omega)
        exact ret_sub hs h
    · rw [if_neg h0, if_neg h0] at h
      have hb : (codeI ws w k == 0) = false := beq_eq_false_iff_ne.2 h0
      generalize codeI ws w k = code at *
      simp (disch := omega) [hb, h0]
      exact ret_sub hs h
end Go.Proofs.YticejlplbibegaaGreatDoor

/- Contracts: the first one of the shortest words with an image. -/
import Derived.Test.YticejlplbibegaaGreatDoorM6
import Derived.Test.YticejlplbibegaaGreatDoorC21
import Derived.Test.YticejlplbibegaaGreatDoorC18
import Derived.Test.YticejlplbibegaaGreatDoorEB
namespace Go.Proofs.YticejlplbibegaaGreatDoor
open Go
set_option linter.unusedSimpArgs false
set_option linter.unusedVariables false

/-- The program's numbers: one more than the greatest length where no word is there. -/
def encI : Cell → Nat
  | (some s, _) => s
  | (none, _) => 61
def lstI (i : Nat) (c : Cell) (t : List Cell) : List Nat := List.replicate i 0 ++ (encI c :: t.map encI)
def lstN (i : Nat) (c : Cell) (t : List Cell) : List Nat := List.replicate i 0 ++ (c.2 :: t.map (·.2))
theorem lstI_length (i : Nat) (c : Cell) (t : List Cell) : (lstI i c t).length = i + 1 + t.length := by simp [lstI]; omega
theorem lstN_length (i : Nat) (c : Cell) (t : List Cell) : (lstN i c t).length = i + 1 + t.length := by simp [lstN]; omega
theorem lstI_get (i : Nat) (c : Cell) (t : List Cell) : (lstI i c t)[i]? = some (encI c) := by
  unfold lstI
  rw [List.getElem?_append_right (by simp)]
  simp
theorem lstI_at (i j : Nat) (c : Cell) (t : List Cell) (h : j < t.length) : (lstI i c t)[i + (j + 1)]? = some (encI t[j]) := by
  unfold lstI
  rw [List.getElem?_append_right (by rw [List.length_replicate]; omega), List.length_replicate, show i + (j + 1) - i = j + 1 by omega, List.getElem?_cons_succ, List.getElem?_map, List.getElem?_eq_getElem h]; rfl
theorem lstI_set (i : Nat) (c c' : Cell) (t : List Cell) : (lstI i c t).set i (encI c') = lstI i c' t := by
  unfold lstI
  rw [List.set_append_right _ _ (by simp), List.length_replicate, Nat.sub_self, List.set_cons_zero]
theorem lstN_set (i : Nat) (c c' : Cell) (t : List Cell) : (lstN i c t).set i c'.2 = lstN i c' t := by
  unfold lstN
  rw [List.set_append_right _ _ (by simp), List.length_replicate, Nat.sub_self, List.set_cons_zero]
/-- Before a place is begun there stands 0. -/
def headI (i : Nat) (t : List Cell) : List Nat := List.replicate i 0 ++ t.map encI
def headN (i : Nat) (t : List Cell) : List Nat := List.replicate i 0 ++ t.map (·.2)
theorem headI_cons (i : Nat) (c : Cell) (t : List Cell) : headI i (c :: t) = lstI i c t := rfl
theorem headN_cons (i : Nat) (c : Cell) (t : List Cell) : headN i (c :: t) = lstN i c t := rfl
theorem headI_set (i : Nat) (t : List Cell) : (headI (i + 1) t).set i 61 = lstI i (none, 0) t := by
  unfold headI lstI
  rw [List.replicate_succ', List.append_assoc, List.set_append_right _ _ (by simp), List.length_replicate, Nat.sub_self]; rfl
theorem headN_zero (i : Nat) (t : List Cell) : headN (i + 1) t = lstN i (none, 0) t := by
  unfold headN lstN
  rw [List.replicate_succ', List.append_assoc]; rfl
theorem headI_last (n : Nat) : List.replicate (n + 1) 0 = headI n [(some 0, 0)] := by
  unfold headI
  rw [List.replicate_succ']; rfl
theorem headN_last (n : Nat) : List.replicate (n + 1) 0 = headN n [(some 0, 0)] := by
  unfold headN
  rw [List.replicate_succ']; rfl
theorem encI_none (b : Nat) : encI (none, b) = 61 := rfl
theorem encI_some (s b : Nat) : encI (some s, b) = s := rfl
theorem encI_le {c : Cell} {B : Nat} (h : ∀ s, c.1 = some s → s ≤ B) (hB : B ≤ 60) : encI c ≤ 61 := by
  obtain ⟨o, b⟩ := c
  cases o with
  | none => exact Nat.le_refl 61
  | some s => have := h s rfl; rw [encI_some]; omega
theorem encI_of_none {c : Cell} (h : c.1 = none) : encI c = 61 := by
  obtain ⟨o, b⟩ := c
  cases o with
  | none => rfl
  | some s => cases h
theorem encI_of_some {c : Cell} {s : Nat} (h : c.1 = some s) : encI c = s := by
  obtain ⟨o, b⟩ := c
  cases o with
  | none => cases h
  | some x => injection h
theorem headI_all (t : List Cell) (i : Nat) : (headI 0 t)[i]? = t[i]?.map encI := by
  unfold headI
  rw [List.replicate_zero, List.nil_append, List.getElem?_map]
theorem headN_all (t : List Cell) (i : Nat) : (headN 0 t)[i]? = t[i]?.map (·.2) := by
  unfold headN
  rw [List.replicate_zero, List.nil_append, List.getElem?_map]
theorem outF_len (w : List UInt8) (ws : List (List UInt8)) : ∀ f i, (outF w ws f i).length ≤ f
  | 0, _ => Nat.le_refl 0
  | f + 1, i => by
    unfold outF
    split
    · have := outF_len w ws f (i + (ws.getD (entT w ws i).2 []).length)
      rw [List.length_cons]; omega
    · exact Nat.zero_le _
theorem cellT_succ (w : List UInt8) (ws : List (List UInt8)) (t : List Cell) (i k : Nat) : cellT w ws t i (k + 1) = updC (cellT w ws t i k) k (cand w t i (ws.getD k [])) := rfl
theorem natsV_rep2 (n : Nat) : List.replicate n (Value.int .i64 0) = natsV (List.replicate n 0) := by simp [natsV]
theorem natsV_set2 (l : List Nat) (i n : Nat) : (natsV l).set i (.int .i64 n) = natsV (l.set i n) := by simp [natsV, List.map_set]
theorem codeM_of (ws : List (List UInt8)) (w : List UInt8) : (if isMor ws then codeOf [w] ([w].all (fun u => fewB u ws.length) && true) else 1) = codeM ws w := by
  unfold codeM
  rw [codeOf1]
  simp only [List.all_cons, List.all_nil, Bool.and_true]
  cases isMor ws <;> cases isWord w <;> rfl
theorem codeM_zero {ws : List (List UInt8)} {w : List UInt8} (h : codeM ws w = 0) : isMor ws = true ∧ isWord w = true := by
  rw [← codeI_one] at h
  obtain ⟨g1, g2, _⟩ := codeI_zero h
  exact ⟨g1, g2⟩
set_option maxHeartbeats 4000000 in
theorem impl_WordFromImage (v : Value) (ws : List (List UInt8)) (w : List UInt8) (M : Mem) (R : Value → Mem → Prop) (hv : Rd M v (strs ws)) (hf : Fine ws) (hn : ws.length ≤ 1099511627776) (hl : w.length ≤ 1099511627776) (h : R (tup2 (str (fromT ws w)) (fromC ws w)) M) : Does Tryz.prog 24 [.agg #[v], str w] M R := by
  refine does_fn tab_ok Tryz.func24 rfl (by kernel_rfl) (by kernel_rfl) Tryz.ntmps24 Tryz.results24 rfl ?_
  obtain ⟨a, c, rfl, ha⟩ := hv.opened
  rw [strs_length] at ha hv ⊢
  simp (disch := omega)
  intro b2 hb2
  have hs2 : Sub M (M.put b2 (.cells true [.slice a ws.length c] 1)) := (Sub.refl M).put hb2 _
  have hv2 := hv.put hb2 (.cells true [.slice a ws.length c] 1)
  have k2 : (M.put b2 (.cells true [.slice a ws.length c] 1)) b2 = some (.cells true [.slice a ws.length c] 1) := put_same _ _ _
  simp (disch := omega)
  generalize M.put b2 (.cells true [.slice a ws.length c] 1) = N1 at *
  intro b16 hb16
  have s16 := (Sub.refl N1).put hb16 (.cells true [str w] 1)
  have r16 : Rd (N1.put b16 (.cells true [str w] 1)) (.slice (some ⟨b16, 0, none⟩) 1 1) (strs [w]) := Rd.new rfl (Nat.le_refl 1)
  have k2' := s16 _ _ k2
  simp (disch := omega)
  generalize N1.put b16 (.cells true [str w] 1) = N2 at *
  have hs22 := hs2.trans s16
  have hv22 := hv2.sub s16
  refine morphismCode_does _ _ _ ws [w] true (fun _ => True) _ _ hv22 hf hn r16 (fine1 hl) (by simp) rfl trivial stab_true (always_tells _) ?_
  rw [codeM_of]
  unfold fromT fromC at h
  by_cases h0 : codeM ws w = 0
  · obtain ⟨hm, hw⟩ := codeM_zero h0
    rw [if_pos h0, if_pos h0] at h
    have h15 := mor_len hm
    have h60 := isWord_len hw
    rw [h0]
    rcases ha with hz | ⟨b, o, rfl, ha⟩
    · omega
    have hget : ∀ k, (hk : k < ws.length) → N2.get? b (o + k) = some (str ws[k]) := by
      intro k hk
      have hg0 := ha k hk
      rw [strs_get, List.getElem?_eq_getElem hk] at hg0
      exact get_keep hg0 hs22
    have er : ((w.length : Int) + 1).toNat = w.length + 1 := by omega
    have eI : List.replicate (w.length + 1) (Value.int .i64 0) = natsV (headI w.length [(some 0, 0)]) := by rw [natsV_rep2, headI_last]
    have eN : List.replicate (w.length + 1) (Value.int .i64 0) = natsV (headN w.length [(some 0, 0)]) := by rw [natsV_rep2, headN_last]
    simp (disch := omega)
    refine plays (lights [0, 1, 2, 4, 5, 6] (.alt 3 1 (.light 8 (.one 7 1 (.light 9 .fin))) (.one 7 1 (.one 3 1 (lights [8, 9] .fin))))) tab_ok (by kernel_rfl) (by kernel_rfl) (by rfl) ?_
    simp (disch := omega) [vT_alt, er]
    refine ⟨?c1, ?c2⟩
    case' c1 =>
      intro b7 hb7
      have t7 := (Sub.refl N2).put hb7 (.cells true (natsV (headI w.length [(some 0, 0)])) (w.length + 1))
      simp only [List.length_replicate]
      simp only [eI]
      have hb7' : ∀ X, (N2.put b7 X) b7 = some X := fun X => put_same _ _ _
      simp (disch := omega)
      refine ⟨t7, ?_⟩
      intro b8 hb8
      have hne : b7 ≠ b8 := by rintro rfl; rw [put_same] at hb8; cases hb8
      have hb82 : N2 b8 = none := none_of t7 hb8
      simp only [List.length_replicate]
      simp only [eN]
      have t8 := (Sub.refl (N2.put b7 (.cells true (natsV (headI w.length [(some 0, 0)])) (w.length + 1)))).put hb8 (.cells true (natsV (headN w.length [(some 0, 0)])) (w.length + 1))
      simp (disch := omega)
      refine ⟨t8, ?_⟩
      clear t7 hb7' hb8 t8
    case' c2 =>
      intro b8 hb82
      have t8 := (Sub.refl N2).put hb82 (.cells true (natsV (headN w.length [(some 0, 0)])) (w.length + 1))
      simp only [List.length_replicate]
      simp only [eN]
      simp (disch := omega)
      refine ⟨t8, ?_⟩
      intro b7 hb70
      have hne : b7 ≠ b8 := by rintro rfl; rw [put_same] at hb70; cases hb70
      have hb7 : N2 b7 = none := none_of t8 hb70
      simp only [List.length_replicate]
      simp only [eI]
      have t7 := (Sub.refl (N2.put b8 (.cells true (natsV (headN w.length [(some 0, 0)])) (w.length + 1)))).put hb70 (.cells true (natsV (headI w.length [(some 0, 0)])) (w.length + 1))
      simp (disch := omega)
      refine ⟨t7, ?_⟩
      rw [put_swap N2 (Ne.symm hne)]
      clear t7 hb70 t8
    all_goals
      refine loop_to tab_ok [9, 10, 11, 32, 33, 34, 35, 36, 37, 38, 39, 40, 41, 42, 43, 44, 45, 46, 47, 48, 49, 50, 51, 52, 53, 54, 55, 56, 57, 58, 59, 60, 61, 62, 63, 64, 65, 66, 67, 68, 69, 70, 71, 72, 73, 74, 75, 76, 77, 78, 79, 80, 81, 82, 83, 84, 85, 86] (fun m : Nat => [(9, .int .i64 ((w.length : Int) - 1 - m))]) (fun m M' => m ≤ w.length ∧ M' = (N2.put b7 (.cells true (natsV (headI (w.length - m) (tabT w ws m))) (w.length + 1))).put b8 (.cells true (natsV (headN (w.length - m) (tabT w ws m))) (w.length + 1))) (fun m => w.length - m) 0 (by kernel_rfl) (by simp (disch := omega)) ⟨by omega, rfl⟩ ?_
      rintro m M' g ⟨hmn, rfl⟩
      have htl := tabT_length w ws m
      have htle := tabT_le w ws m
      have htb := tabT_b w ws m
      by_cases hlt : m < w.length
      · obtain ⟨i, hi⟩ : ∃ i, i = w.length - (m + 1) := ⟨_, rfl⟩
        have ei : (w.length : Int) - 1 - m = (i : Int) := by omega
        have hc1 : tabT w ws (m + 1) = cellT w ws (tabT w ws m) i ws.length :: tabT w ws m := by rw [hi]; rfl
        rw [show w.length - m = i + 1 by omega, ei, headN_zero]
        have hhs := headI_set i (tabT w ws m)
        have hhl : (headI (i + 1) (tabT w ws m)).length = w.length + 1 := by unfold headI; simp; omega
        have hset : (natsV (headI (i + 1) (tabT w ws m))).set i (.int .i64 61) = natsV (lstI i (none, 0) (tabT w ws m)) := by rw [← hhs, ← natsV_set2]; rfl
        generalize tabT w ws m = t at *
        have l2 : ((N2.put b7 (.cells true (natsV (lstI i (none, 0) t)) (w.length + 1))).put b8 (.cells true (natsV (lstN i (none, 0) t)) (w.length + 1))) b2 = some (.cells true [.slice (some ⟨b, o, none⟩) ws.length c] 1) := by
          rw [put_ne _ _ (by rintro rfl; rw [k2'] at hb82; cases hb82), put_ne _ _ (by rintro rfl; rw [k2'] at hb7; cases hb7)]; exact k2'
        simp (disch := omega) [hne, Ne.symm hne]
        refine ⟨by rw [natsV_length]; omega, ?_⟩
        simp (disch := omega) [hset, get_of l2]
        have hml2 : m ≤ 59 := by omega
        have hil : i + 1 + m = w.length := by omega
        refine loop_to tab_ok [10, 11, 42, 43, 44, 45, 46, 47, 48, 49, 50, 51, 52, 53, 54, 55, 56, 57, 58, 59, 60, 61, 62, 63, 64, 65, 66, 67, 68, 69, 70, 71, 72, 73, 74, 75, 76, 77, 78, 79, 80, 81, 82, 83, 84, 85, 86] (fun k : Nat => [(42, .int .i64 k)]) (fun k M1 => k ≤ ws.length ∧ M1 = (N2.put b7 (.cells true (natsV (lstI i (cellT w ws t i k) t)) (w.length + 1))).put b8 (.cells true (natsV (lstN i (cellT w ws t i k) t)) (w.length + 1))) (fun k => ws.length - k) 0 (by kernel_rfl) (by simp (disch := omega)) ⟨by omega, rfl⟩ ?_
        rintro k M1 g1 ⟨hk, rfl⟩
        have hcs := cellT_succ w ws t i k
        have hcle := fun x => cell_le (w := w) (ws := ws) (i := i) htle k x
        by_cases hkl : k < ws.length
        · have hgk := hget k hkl
          have hgd : ws.getD k [] = ws[k] := by rw [List.getD_eq_getElem?_getD, List.getElem?_eq_getElem hkl]; rfl
          rw [hgd] at hcs
          obtain ⟨own, hown⟩ : ∃ own, own = ws[k] := ⟨_, rfl⟩
          rw [← hown] at hgk hcs
          generalize hcur : cellT w ws t i k = cur at *
          have hI := lstI_get i cur t
          have hIl := lstI_length i cur t
          have hNl := lstN_length i cur t
          have sN : Sub N2 ((N2.put b7 (.cells true (natsV (lstI i cur t)) (w.length + 1))).put b8 (.cells true (natsV (lstN i cur t)) (w.length + 1))) := by
            intro j B hB
            rw [put_ne _ _ (by rintro rfl; rw [hB] at hb82; cases hb82), put_ne _ _ (by rintro rfl; rw [hB] at hb7; cases hb7)]
            exact hB
          have hgk2 := get_keep hgk sN
          have hIv : (natsV (lstI i cur t))[i]? = some (.int .i64 (encI cur : Nat)) := by rw [natsV_get, hI]; rfl
          have hcur61 := encI_le (c := cur) (B := m + 1) hcle (by omega)
          have hdl : (w.drop i).length = m + 1 := by rw [List.length_drop]; omega
          simp (disch := omega) [hgk2]
          refine draw_to tab_ok (by kernel_rfl) (by kernel_rfl) (by rfl) ?_
          by_cases h1 : own = []
          · have hc0 : cand w t i own = none := by unfold cand; rw [if_pos h1]
            rw [hc0] at hcs
            subst h1
            simp (disch := omega)
            refine Rnd.mk' (k + 1) (by omega) (by (repeat (first | exact km | refine kp rfl ?_ | refine km' rfl ?_))) (by simp (disch := omega)) ⟨by omega, ?_⟩
            rw [hcs]; rfl
          · have he : own.isEmpty = false := by cases own with
              | nil => exact absurd rfl h1
              | cons a l => rfl
            have ho1 : 1 ≤ own.length := by cases own with
              | nil => exact absurd rfl h1
              | cons a l => simp
            have hown12 : own.length ≤ 12 := by rw [hown]; exact (mor_ok hm (List.getElem_mem hkl)).1
            simp (disch := omega) [he]
            refine vQCall_at (a := []) (c := []) (hasPrefix_does _ _ _ _ (by omega) (by omega) ⟨rfl, rfl⟩) ?_
            cases hpre : own.isPrefixOf (w.drop i)
            · have hc0 : cand w t i own = none := by unfold cand; rw [if_neg h1, hpre]; rfl
              rw [hc0] at hcs
              simp (disch := omega)
              refine Rnd.mk' (k + 1) (by omega) (by (repeat (first | exact km | refine kp rfl ?_ | refine km' rfl ?_))) (by simp (disch := omega)) ⟨by omega, ?_⟩
              rw [hcs]; rfl
            · have hple := prefix_len hpre
              rw [hdl] at hple
              have htj : own.length - 1 < t.length := by omega
              have hc0 : cand w t i own = (t[own.length - 1]).1 := by
                unfold cand
                rw [if_neg h1, hpre, if_pos rfl, List.getD_eq_getElem?_getD, List.getElem?_eq_getElem htj]; rfl
              rw [hc0] at hcs
              have hIt := lstI_at i (own.length - 1) cur t htj
              rw [show i + (own.length - 1 + 1) = i + own.length by omega] at hIt
              have hte := htle _ (List.getElem_mem htj)
              have hte61 := encI_le (c := t[own.length - 1]) (B := m) hte (by omega)
              generalize t[own.length - 1] = ce at *
              have hIt2 : (natsV (lstI i cur t))[i + own.length]? = some (.int .i64 (encI ce : Nat)) := by rw [natsV_get, hIt]; rfl
              have ea : ((i : Int) + own.length).toNat = i + own.length := by omega
              simp (disch := omega) [hne, Ne.symm hne, hIv, hIt2, ea]
              by_cases hcond : (1 : Int) + (encI ce : Nat) < (encI cur : Nat)
              · obtain ⟨os, bs⟩ := ce
                cases os with
                | none => rw [encI_none] at hcond; omega
                | some s =>
                  rw [encI_some] at hcond hIt2
                  have hup : updC cur k (some s) = (some (s + 1), k) := by
                    obtain ⟨oc, bc⟩ := cur
                    unfold updC
                    cases oc with
                    | none => rfl
                    | some x => rw [encI_some] at hcond; exact if_pos (by omega)
                  rw [show (some s, bs).1 = some s from rfl, hup] at hcs
                  have hs1 := lstI_set i cur (some (s + 1), k) t
                  have hs2 := lstN_set i cur (some (s + 1), k) t
                  have hs1' : (natsV (lstI i cur t)).set i (.int .i64 ((1 : Int) + (s : Nat))) = natsV (lstI i (some (s + 1), k) t) := by
                    rw [← hs1, ← natsV_set2, encI_some, show ((1 : Int) + (s : Nat)) = ((s + 1 : Nat) : Int) by omega]
                  have hs2' : (natsV (lstN i cur t)).set i (.int .i64 (k : Nat)) = natsV (lstN i (some (s + 1), k) t) := by
                    rw [← hs2, ← natsV_set2]
                  rw [encI_some]
                  have hcond' : (1 : Int) + (s : Nat) < (encI cur : Nat) := hcond
                  simp (disch := omega) [hcond', hne, Ne.symm hne, hIv, hIt2, ea, hs1', hs2']
                  refine ⟨by rw [natsV_length]; omega, ?_⟩
                  simp (disch := omega) [hcond', hne, Ne.symm hne, hIv, hIt2, ea, hs1', hs2']
                  refine ⟨by rw [natsV_length]; omega, ?_⟩
                  simp (disch := omega) [hcond', hne, Ne.symm hne, hIv, hIt2, ea, hs1', hs2']
                  refine Rnd.mk' (k + 1) (by omega) (by (repeat (first | exact km | refine kp rfl ?_ | refine km' rfl ?_))) (by simp (disch := omega)) ⟨by omega, ?_⟩
                  rw [hcs]
              · have hup : updC cur k ce.1 = cur := by
                  obtain ⟨os, bs⟩ := ce
                  cases os with
                  | none => rfl
                  | some s =>
                    obtain ⟨oc, bc⟩ := cur
                    rw [encI_some] at hcond
                    unfold updC
                    cases oc with
                    | none => rw [encI_none] at hcond; have := hte s rfl; omega
                    | some x => rw [encI_some] at hcond; exact if_neg (by omega)
                rw [hup] at hcs
                simp (disch := omega) [hcond]
                refine Rnd.mk' (k + 1) (by omega) (by (repeat (first | exact km | refine kp rfl ?_ | refine km' rfl ?_))) (by simp (disch := omega)) ⟨by omega, ?_⟩
                rw [hcs]
        · have hk' : k = ws.length := by omega
          subst hk'
          simp (disch := omega)
          refine Rnd.mk' (m + 1) (by omega) (by (repeat (first | exact km | refine kp rfl ?_ | refine km' rfl ?_))) (by simp (disch := omega); omega) ⟨by omega, ?_⟩
          rw [show w.length - (m + 1) = i by omega, hc1, headI_cons, headN_cons]
      · have hm' : m = w.length := by omega
        subst hm'
        have hent : ∀ i, i ≤ w.length → (tabT w ws w.length)[i]? = some (entT w ws i) := fun i hi => by
          rw [tabT_ent w ws w.length i hi (Nat.le_refl _), Nat.sub_self, Nat.zero_add]
        rw [Nat.sub_self]
        have hI0 : ∀ i, i ≤ w.length → (natsV (headI 0 (tabT w ws w.length)))[i]? = some (.int .i64 (encI (entT w ws i) : Nat)) := fun i hi => by rw [natsV_get, headI_all, hent i hi]; rfl
        have hN0 : ∀ i, i ≤ w.length → (natsV (headN 0 (tabT w ws w.length)))[i]? = some (.int .i64 ((entT w ws i).2 : Nat)) := fun i hi => by rw [natsV_get, headN_all, hent i hi]; rfl
        generalize natsV (headI 0 (tabT w ws w.length)) = LI at *
        generalize natsV (headN 0 (tabT w ws w.length)) = LN at *
        have sN : Sub N2 ((N2.put b7 (.cells true LI (w.length + 1))).put b8 (.cells true LN (w.length + 1))) := by
          intro j B hB
          rw [put_ne _ _ (by rintro rfl; rw [hB] at hb82; cases hb82), put_ne _ _ (by rintro rfl; rw [hB] at hb7; cases hb7)]
          exact hB
        have l2 := sN _ _ k2'
        have hI00 := hI0 0 (by omega)
        simp (disch := omega) [hne, Ne.symm hne, hI00]
        cases he0 : (entT w ws 0).1 with
        | none =>
          rw [he0] at h
          have e61 : (60 : Int) < ((encI (entT w ws 0) : Nat) : Int) := by rw [encI_of_none he0]; omega
          simp (disch := omega) [e61]
          exact ret_sub (hs22.trans sN) h
        | some x0 =>
          rw [he0] at h
          have hx0 : x0 ≤ w.length := tabT_le w ws w.length _ (List.mem_of_getElem? (hent 0 (by omega))) x0 he0
          have e61 : ¬ (60 : Int) < ((encI (entT w ws 0) : Nat) : Int) := by rw [encI_of_some he0]; omega
          simp (disch := omega) [e61]
          refine loop_to tab_ok [12, 13, 91, 92, 93, 94, 95, 96, 97, 98, 99, 100, 101, 102, 103, 104, 105, 106, 107, 108, 109, 110, 111, 112] (fun x : Nat × List UInt8 => [(13, .int .i64 x.1), (12, str x.2)]) (fun x M' => M' = (N2.put b7 (.cells true LI (w.length + 1))).put b8 (.cells true LN (w.length + 1)) ∧ x.1 ≤ w.length ∧ (∃ y, (entT w ws x.1).1 = some y) ∧ ∃ f, w.length ≤ x.1 + f ∧ x.2 ++ outF w ws f x.1 = outF w ws w.length 0) (fun x => w.length - x.1) (0, []) (by kernel_rfl) (by simp (disch := omega)) ⟨rfl, by omega, ⟨x0, he0⟩, w.length, by omega, rfl⟩ ?_
          rintro ⟨i, out⟩ M' g ⟨rfl, hi, ⟨y, hy⟩, f, hf2, hout⟩
          simp only at hi hy hf2 hout
          have hol := congrArg List.length hout
          have hofl := outF_len w ws w.length 0
          rw [List.length_append] at hol
          by_cases hlt : i < w.length
          · obtain ⟨w1, w2, w3, ⟨s, w4, w5⟩, w6, w7⟩ := ent_way hlt hy
            obtain ⟨f, rfl⟩ : ∃ f', f = f' + 1 := ⟨f - 1, by omega⟩
            have hof : outF w ws (f + 1) i = ltr (entT w ws i).2 :: outF w ws f (i + (ws.getD (entT w ws i).2 []).length) := by
              conv => lhs; unfold outF
              rw [if_pos hlt]
            rw [hof] at hout
            have hNi := hN0 i hi
            have hgd : ws.getD (entT w ws i).2 [] = ws[(entT w ws i).2] := by rw [List.getD_eq_getElem?_getD, List.getElem?_eq_getElem w1]; rfl
            have hgb := get_keep (hget _ w1) sN
            have hob : 1 ≤ (ws.getD (entT w ws i).2 []).length := by
              cases hq : ws.getD (entT w ws i).2 [] with
              | nil => exact absurd hq w2
              | cons a l => simp
            rw [← hgd] at hgb
            generalize (entT w ws i).2 = bb at *
            generalize ws.getD bb [] = own at *
            simp (disch := omega) [hne, Ne.symm hne, hNi]
            refine letterN_does bb _ _ (by omega) ?_
            simp (disch := omega)
            refine draw_to tab_ok (by kernel_rfl) (by kernel_rfl) (by rfl) ?_
            simp (disch := omega) [get_of l2, hNi, hgb, hne, Ne.symm hne]
            refine Rnd.mk' (i + own.length, out ++ [ltr bb]) (by simp only; omega) (by (repeat (first | exact km | refine kp rfl ?_ | refine km' rfl ?_))) (by simp (disch := omega)) ⟨rfl, by simp only; omega, ⟨s, w4⟩, f, by simp only; omega, ?_⟩
            simp only
            rw [List.append_assoc]
            exact hout
          · have hi' : i = w.length := by omega
            rw [outF_end hlt, List.append_nil] at hout
            rw [← hout] at h
            simp (disch := omega)
            exact ret_sub (hs22.trans sN) h
  · rw [if_neg h0, if_neg h0] at h
    have hb : (codeM ws w == 0) = false := beq_eq_false_iff_ne.2 h0
    generalize codeM ws w = code at *
    simp (disch := omega) [hb, h0]
    exact ret_sub hs22 h
end Go.Proofs.YticejlplbibegaaGreatDoor

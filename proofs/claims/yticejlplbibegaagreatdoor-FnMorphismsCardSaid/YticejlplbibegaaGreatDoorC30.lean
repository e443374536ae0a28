/- Contracts: the first one of the shortest words with an image, of the reference. -/
import Derived.Test.YticejlplbibegaaGreatDoorC29
namespace Go.Proofs.YticejlplbibegaaGreatDoor
open Go
set_option linter.unusedSimpArgs false
set_option linter.unusedVariables false

/-- The reference's numbers: -1 where no word is there. -/
def encS : Cell → Int
  | (some s, _) => s
  | (none, _) => -1
theorem encS_of_none {c : Cell} (h : c.1 = none) : encS c = -1 := by
  obtain ⟨o, b⟩ := c
  cases o with
  | none => rfl
  | some s => cases h
theorem encS_of_some {c : Cell} {s : Nat} (h : c.1 = some s) : encS c = s := by
  obtain ⟨o, b⟩ := c
  cases o with
  | none => cases h
  | some x => injection h with h; subst h; rfl
def lstS (i : Nat) (c : Cell) (t : List Cell) : List Int := List.replicate i 0 ++ (encS c :: t.map encS)
theorem lstS_length (i : Nat) (c : Cell) (t : List Cell) : (lstS i c t).length = i + 1 + t.length := by simp [lstS]; omega
theorem lstS_get (i : Nat) (c : Cell) (t : List Cell) : (lstS i c t)[i]? = some (encS c) := by
  unfold lstS
  rw [List.getElem?_append_right (by simp)]
  simp
theorem lstS_at (i j : Nat) (c : Cell) (t : List Cell) (h : j < t.length) : (lstS i c t)[i + (j + 1)]? = some (encS t[j]) := by
  unfold lstS
  rw [List.getElem?_append_right (by rw [List.length_replicate]; omega), List.length_replicate, show i + (j + 1) - i = j + 1 by omega, List.getElem?_cons_succ, List.getElem?_map, List.getElem?_eq_getElem h]; rfl
theorem lstS_set (i : Nat) (c c' : Cell) (t : List Cell) : (lstS i c t).set i (encS c') = lstS i c' t := by
  unfold lstS
  rw [List.set_append_right _ _ (by simp), List.length_replicate, Nat.sub_self, List.set_cons_zero]
def headS (i : Nat) (t : List Cell) : List Int := List.replicate i 0 ++ t.map encS
theorem headS_cons (i : Nat) (c : Cell) (t : List Cell) : headS i (c :: t) = lstS i c t := rfl
theorem headS_set (i : Nat) (t : List Cell) : (headS (i + 1) t).set i (-1) = lstS i (none, 0) t := by
  unfold headS lstS
  rw [List.replicate_succ', List.append_assoc, List.set_append_right _ _ (by simp), List.length_replicate, Nat.sub_self]; rfl
theorem headS_last (n : Nat) : List.replicate (n + 1) (0 : Int) = headS n [(some 0, 0)] := by
  unfold headS
  rw [List.replicate_succ']; rfl
theorem headS_all (t : List Cell) (i : Nat) : (headS 0 t)[i]? = t[i]?.map encS := by
  unfold headS
  rw [List.replicate_zero, List.nil_append, List.getElem?_map]
theorem at_beq {w own : List UInt8} {i : Nat} (h : i + own.length ≤ w.length) : ((w.take (i + own.length)).drop i == own) = own.isPrefixOf (w.drop i) := by
  rw [List.drop_take, show i + own.length - i = own.length by omega, prefix_beq (w.drop i) own (by rw [List.length_drop]; omega)]
set_option maxHeartbeats 4000000 in
set_option maxRecDepth 4000 in
theorem spec_WordFromImage (v : Value) (ws : List (List UInt8)) (w : List UInt8) (M : Mem) (R : Value → Mem → Prop) (hv : Rd M v (strs ws)) (hf : Fine ws) (hn : ws.length ≤ 1099511627776) (hl : w.length ≤ 1099511627776) (h : R (tup2 (str (fromT ws w)) (fromC ws w)) M) : Does Tryz.prog 25 [.agg #[v], str w] M R := by
  refine does_fn tab_ok Tryz.func25 rfl (by kernel_rfl) (by kernel_rfl) Tryz.ntmps25 Tryz.results25 rfl ?_
  obtain ⟨a, c, rfl, ha⟩ := hv.opened
  rw [strs_length] at ha hv ⊢
  simp (disch := omega)
  intro b2 hb2
  have hs2 : Sub M (M.put b2 (.cells true [.slice a ws.length c] 1)) := (Sub.refl M).put hb2 _
  have hv2 := hv.put hb2 (.cells true [.slice a ws.length c] 1)
  have k2 : (M.put b2 (.cells true [.slice a ws.length c] 1)) b2 = some (.cells true [.slice a ws.length c] 1) := put_same _ _ _
  simp (disch := omega)
  generalize M.put b2 (.cells true [.slice a ws.length c] 1) = N1 at *
  refine l06Code_does _ ws w _ _ hv2 hf hn hl ?_
  unfold fromT fromC at h
  by_cases h0 : codeM ws w = 0
  · obtain ⟨hm, hw⟩ := codeM_zero h0
    rw [if_pos h0, if_pos h0] at h
    have h15 := mor_len hm
    have h60 := isWord_len hw
    rw [h0]
    rcases ha with hz | ⟨b, o, rfl, ha⟩
    · omega
    have hget : ∀ k, (hk : k < ws.length) → N1.get? b (o + k) = some (str ws[k]) := by
      intro k hk
      have hg0 := ha k hk
      rw [strs_get, List.getElem?_eq_getElem hk] at hg0
      exact get_keep hg0 hs2
    have er : ((w.length : Int) + 1).toNat = w.length + 1 := by omega
    have eI : List.replicate (w.length + 1) (Value.int .i64 0) = ints (headS w.length [(some 0, 0)]) := by rw [ints_rep, headS_last]
    simp (disch := omega) [er]
    intro b8 hb8
    simp only [List.length_replicate]
    simp only [eI]
    simp (disch := omega)
    refine loop_to tab_ok [9, 10, 11, 12, 30, 31, 32, 33, 34, 35, 36, 37, 38, 39, 40, 41, 42, 43, 44, 45, 46, 47, 48, 49, 50, 51, 52, 53, 54, 55, 56, 57, 58, 59, 60, 61, 62, 63, 64, 65, 66, 67, 68, 69, 70, 71, 72, 73, 74, 75, 76, 77, 78, 79, 80, 81, 82, 83, 84, 85, 86, 87, 88, 89, 90, 91, 92, 93, 94, 95, 96, 97, 98, 99, 100, 101, 102, 103, 104] (fun m : Nat => [(9, .int .i64 ((w.length : Int) - 1 - m))]) (fun m M' => m ≤ w.length ∧ M' = N1.put b8 (.cells true (ints (headS (w.length - m) (tabT w ws m))) (w.length + 1))) (fun m => w.length - m) 0 (by kernel_rfl) (by simp (disch := omega)) ⟨by omega, rfl⟩ ?_
    rintro m M' g ⟨hmn, rfl⟩
    have htl := tabT_length w ws m
    have htle := tabT_le w ws m
    by_cases hlt : m < w.length
    · obtain ⟨i, hi⟩ : ∃ i, i = w.length - (m + 1) := ⟨_, rfl⟩
      have ei : (w.length : Int) - 1 - m = (i : Int) := by omega
      have hc1 : tabT w ws (m + 1) = cellT w ws (tabT w ws m) i ws.length :: tabT w ws m := by rw [hi]; rfl
      rw [show w.length - m = i + 1 by omega, ei]
      have hhs := headS_set i (tabT w ws m)
      have hhl : (headS (i + 1) (tabT w ws m)).length = w.length + 1 := by unfold headS; simp; omega
      have hset : (ints (headS (i + 1) (tabT w ws m))).set i (.int .i64 (-1)) = ints (lstS i (none, 0) (tabT w ws m)) := by rw [← hhs, ← ints_set]
      generalize tabT w ws m = t at *
      simp (disch := omega) [hset]
      have hil : i + 1 + m = w.length := by omega
      refine loop_to tab_ok [10, 11, 12, 37, 38, 39, 40, 41, 42, 43, 44, 45, 46, 47, 48, 49, 50, 51, 52, 53, 54, 55, 56, 57, 58, 59, 60, 61, 62, 63, 64, 65, 66, 67, 68, 69, 70, 71, 72, 73, 74, 75, 76, 77, 78, 79, 80, 81, 82, 83, 84, 85, 86, 87, 88, 89, 90, 91, 92, 93, 94, 95, 96, 97, 98, 99, 100, 101, 102, 103, 104] (fun k : Nat => [(10, .int .i64 k)]) (fun k M1 => k ≤ ws.length ∧ M1 = N1.put b8 (.cells true (ints (lstS i (cellT w ws t i k) t)) (w.length + 1))) (fun k => ws.length - k) 0 (by kernel_rfl) (by simp (disch := omega)) ⟨by omega, rfl⟩ ?_
      rintro k M1 g1 ⟨hk, rfl⟩
      have hcs := cellT_succ w ws t i k
      have hcle := fun x => cell_le (w := w) (ws := ws) (i := i) htle k x
      generalize hcur : cellT w ws t i k = cur at *
      have sN : Sub N1 (N1.put b8 (.cells true (ints (lstS i cur t)) (w.length + 1))) := (Sub.refl N1).put hb8 _
      have l2 := sN _ _ k2
      by_cases hkl : k < ws.length
      · have hgk := hget k hkl
        have hgd : ws.getD k [] = ws[k] := by rw [List.getD_eq_getElem?_getD, List.getElem?_eq_getElem hkl]; rfl
        rw [hgd] at hcs
        obtain ⟨own, hown⟩ : ∃ own, own = ws[k] := ⟨_, rfl⟩
        rw [← hown] at hgk hcs
        have hIv : (ints (lstS i cur t))[i]? = some (.int .i64 (encS cur)) := by rw [ints_get, lstS_get i cur t]; rfl
        have hIl := lstS_length i cur t
        have hgk2 := get_keep hgk sN
        have hown12 : own.length ≤ 12 := by rw [hown]; exact (mor_ok hm (List.getElem_mem hkl)).1
        have hdl : (w.drop i).length = m + 1 := by rw [List.length_drop]; omega
        simp (disch := omega) [get_of l2, hgk2]
        by_cases h1 : own = []
        · have hc0 : cand w t i own = none := by unfold cand; rw [if_pos h1]
          rw [hc0] at hcs
          subst h1
          simp (disch := omega)
          refine Rnd.mk' (k + 1) (by omega) (by (repeat (first | exact km | refine kp rfl ?_ | refine km' rfl ?_))) (by simp (disch := omega)) ⟨by omega, ?_⟩
          rw [hcs]; rfl
        · have he : own.isEmpty = false := by cases own with
            | nil => exact absurd rfl h1
            | cons a l => rfl
          have ho1 : 1 ≤ own.length := by cases own with
            | nil => exact absurd rfl h1
            | cons a l => simp
          by_cases hlong : w.length < i + own.length
          · have hpre : own.isPrefixOf (w.drop i) = false := prefix_no (by omega)
            have hc0 : cand w t i own = none := by unfold cand; rw [if_neg h1, hpre]; rfl
            rw [hc0] at hcs
            have hlong' : (w.length : Int) < (i : Int) + own.length := by omega
            simp (disch := omega) [he, hlong']
            refine Rnd.mk' (k + 1) (by omega) (by (repeat (first | exact km | refine kp rfl ?_ | refine km' rfl ?_))) (by simp (disch := omega)) ⟨by omega, ?_⟩
            rw [hcs]; rfl
          · have hlong' : ¬ (w.length : Int) < (i : Int) + own.length := by omega
            have ea : ((i : Int) + own.length).toNat = i + own.length := by omega
            have hab := at_beq (w := w) (own := own) (i := i) (by omega)
            cases hpre : own.isPrefixOf (w.drop i)
            · have hc0 : cand w t i own = none := by unfold cand; rw [if_neg h1, hpre]; rfl
              rw [hc0] at hcs
              rw [hpre] at hab
              simp (disch := omega) [he, hlong', ea, hab]
              refine Rnd.mk' (k + 1) (by omega) (by (repeat (first | exact km | refine kp rfl ?_ | refine km' rfl ?_))) (by simp (disch := omega)) ⟨by omega, ?_⟩
              rw [hcs]; rfl
            · rw [hpre] at hab
              have htj : own.length - 1 < t.length := by omega
              have hc0 : cand w t i own = (t[own.length - 1]).1 := by
                unfold cand
                rw [if_neg h1, hpre, if_pos rfl, List.getD_eq_getElem?_getD, List.getElem?_eq_getElem htj]; rfl
              rw [hc0] at hcs
              have hIt := lstS_at i (own.length - 1) cur t htj
              rw [show i + (own.length - 1 + 1) = i + own.length by omega] at hIt
              have hte := htle _ (List.getElem_mem htj)
              generalize t[own.length - 1] = ce at *
              have hIt2 : (ints (lstS i cur t))[i + own.length]? = some (.int .i64 (encS ce)) := by rw [ints_get, hIt]; rfl
              cases hce : ce.1 with
              | none =>
                rw [hce] at hcs
                have hneg : encS ce < 0 := by rw [encS_of_none hce]; decide
                generalize encS ce = ec at *
                simp (disch := omega) [he, hlong', ea, hab, hIt2, hneg]
                refine Rnd.mk' (k + 1) (by omega) (by (repeat (first | exact km | refine kp rfl ?_ | refine km' rfl ?_))) (by simp (disch := omega)) ⟨by omega, ?_⟩
                rw [hcs]; rfl
              | some s =>
                rw [hce] at hcs
                have hes := encS_of_some hce
                have hs60 := hte s hce
                rw [hes] at hIt2
                cases hcu : cur.1 with
                | none =>
                  have hup : updC cur k (some s) = (some (s + 1), k) := by unfold updC; rw [hcu]
                  rw [hup] at hcs
                  have hneg : encS cur < 0 := by rw [encS_of_none hcu]; decide
                  have hs1 := lstS_set i cur (some (s + 1), k) t
                  have hs1' : (ints (lstS i cur t)).set i (.int .i64 ((1 : Int) + (s : Nat))) = ints (lstS i (some (s + 1), k) t) := by
                    rw [← hs1, ← ints_set, show encS (some (s + 1), k) = ((s + 1 : Nat) : Int) from rfl, show ((1 : Int) + (s : Nat)) = ((s + 1 : Nat) : Int) by omega]
                  generalize encS cur = ecu at *
                  simp (disch := omega) [he, hlong', ea, hab, hIt2, hIv, hneg, hs1']
                  refine Rnd.mk' (k + 1) (by omega) (by (repeat (first | exact km | refine kp rfl ?_ | refine km' rfl ?_))) (by simp (disch := omega)) ⟨by omega, ?_⟩
                  rw [hcs]
                | some x =>
                  have hex := encS_of_some hcu
                  have hxle := hcle x hcu
                  rw [hex] at hIv
                  by_cases hlt2 : s + 1 < x
                  · have hup : updC cur k (some s) = (some (s + 1), k) := by unfold updC; rw [hcu]; exact if_pos hlt2
                    rw [hup] at hcs
                    have hl2' : (1 : Int) + (s : Nat) < (x : Nat) := by omega
                    have hs1 := lstS_set i cur (some (s + 1), k) t
                    have hs1' : (ints (lstS i cur t)).set i (.int .i64 ((1 : Int) + (s : Nat))) = ints (lstS i (some (s + 1), k) t) := by
                      rw [← hs1, ← ints_set, show encS (some (s + 1), k) = ((s + 1 : Nat) : Int) from rfl, show ((1 : Int) + (s : Nat)) = ((s + 1 : Nat) : Int) by omega]
                    simp (disch := omega) [he, hlong', ea, hab, hIt2, hIv, hl2', hs1']
                    refine Rnd.mk' (k + 1) (by omega) (by (repeat (first | exact km | refine kp rfl ?_ | refine km' rfl ?_))) (by simp (disch := omega)) ⟨by omega, ?_⟩
                    rw [hcs]
                  · have hup : updC cur k (some s) = cur := by unfold updC; rw [hcu]; exact if_neg hlt2
                    rw [hup] at hcs
                    have hl2' : ¬ (1 : Int) + (s : Nat) < (x : Nat) := by omega
                    simp (disch := omega) [he, hlong', ea, hab, hIt2, hIv, hl2']
                    refine Rnd.mk' (k + 1) (by omega) (by (repeat (first | exact km | refine kp rfl ?_ | refine km' rfl ?_))) (by simp (disch := omega)) ⟨by omega, ?_⟩
                    rw [hcs]
      · have hk' : k = ws.length := by omega
        subst hk'
        simp (disch := omega) [get_of l2]
        refine Rnd.mk' (m + 1) (by omega) (by (repeat (first | exact km | refine kp rfl ?_ | refine km' rfl ?_))) (by simp (disch := omega); omega) ⟨by omega, ?_⟩
        rw [show w.length - (m + 1) = i by omega, hc1, headS_cons, hcur]
    · have hm' : m = w.length := by omega
      subst hm'
      have hent : ∀ i, i ≤ w.length → (tabT w ws w.length)[i]? = some (entT w ws i) := fun i hi => by
        rw [tabT_ent w ws w.length i hi (Nat.le_refl _), Nat.sub_self, Nat.zero_add]
      rw [Nat.sub_self]
      have hI0 : ∀ i, i ≤ w.length → (ints (headS 0 (tabT w ws w.length)))[i]? = some (.int .i64 (encS (entT w ws i))) := fun i hi => by rw [ints_get, headS_all, hent i hi]; rfl
      generalize ints (headS 0 (tabT w ws w.length)) = LI at *
      have sN : Sub N1 (N1.put b8 (.cells true LI (w.length + 1))) := (Sub.refl N1).put hb8 _
      have l2 := sN _ _ k2
      have hI00 := hI0 0 (by omega)
      simp (disch := omega) [hI00]
      cases he0 : (entT w ws 0).1 with
      | none =>
        rw [he0] at h
        have e61 : encS (entT w ws 0) < 0 := by rw [encS_of_none he0]; decide
        simp (disch := omega) [e61]
        exact ret_sub (hs2.trans sN) h
      | some x0 =>
        rw [he0] at h
        have e61 : ¬ encS (entT w ws 0) < 0 := by rw [encS_of_some he0]; omega
        simp (disch := omega) [e61]
        refine loop_to tab_ok [13, 14, 15, 16, 109, 110, 111, 112, 113, 114, 115, 116, 117, 118, 119, 120, 121, 122, 123, 124, 125, 126, 127, 128, 129, 130, 131, 132, 133, 134, 135, 136, 137, 138, 139, 140, 141, 142, 143, 144, 145, 146, 147, 148, 149, 150, 151, 152, 153, 154, 155, 156, 157, 158, 159, 160, 161, 162, 163, 164, 165, 166, 167, 168, 169, 170, 171, 172, 173, 174, 175, 176, 177, 178, 179] (fun x : Nat × List UInt8 => [(14, .int .i64 x.1), (13, str x.2)]) (fun x M' => M' = N1.put b8 (.cells true LI (w.length + 1)) ∧ x.1 ≤ w.length ∧ (∃ y, (entT w ws x.1).1 = some y) ∧ ∃ f, w.length ≤ x.1 + f ∧ x.2 ++ outF w ws f x.1 = outF w ws w.length 0) (fun x => w.length - x.1) (0, []) (by kernel_rfl) (by simp (disch := omega)) ⟨rfl, by omega, ⟨x0, he0⟩, w.length, by omega, rfl⟩ ?_
        rintro ⟨i, out⟩ M' g ⟨rfl, hi, ⟨y, hy⟩, f, hf2, hout⟩
        simp only at hi hy hf2 hout
        have hol := congrArg List.length hout
        have hofl := outF_len w ws w.length 0
        rw [List.length_append] at hol
        by_cases hlt : i < w.length
        · obtain ⟨w1, w2, w3, ⟨s, w4, w5⟩, w6, w7⟩ := ent_way hlt hy
          obtain ⟨f, rfl⟩ : ∃ f', f = f' + 1 := ⟨f - 1, by omega⟩
          have hof : outF w ws (f + 1) i = ltr (entT w ws i).2 :: outF w ws f (i + (ws.getD (entT w ws i).2 []).length) := by
            conv => lhs; unfold outF
            rw [if_pos hlt]
          rw [hof] at hout
          have hIi := hI0 i hi
          rw [encS_of_some hy] at hIi
          have hyl : y ≤ w.length := tabT_le w ws w.length _ (List.mem_of_getElem? (hent i hi)) y hy
          simp (disch := omega)
          refine loop_to tab_ok [13, 14, 15, 16, 112, 113, 114, 115, 116, 117, 118, 119, 120, 121, 122, 123, 124, 125, 126, 127, 128, 129, 130, 131, 132, 133, 134, 135, 136, 137, 138, 139, 140, 141, 142, 143, 144, 145, 146, 147, 148, 149, 150, 151, 152, 153, 154, 155, 156, 157, 158, 159, 160, 161, 162, 163, 164, 165, 166, 167, 168, 169, 170, 171, 172, 173, 174, 175, 176, 177, 178, 179] (fun k : Nat => [(15, .int .i64 k), (14, .int .i64 i), (13, str out)]) (fun k M1 => M1 = N1.put b8 (.cells true LI (w.length + 1)) ∧ k ≤ (entT w ws i).2) (fun k => ws.length - k) 0 (by kernel_rfl) (by simp (disch := omega)) ⟨rfl, Nat.zero_le _⟩ ?_
          rintro k M1 g1 ⟨rfl, hkb⟩
          have hkl : k < ws.length := by omega
          have hgd : ws.getD k [] = ws[k] := by rw [List.getD_eq_getElem?_getD, List.getElem?_eq_getElem hkl]; rfl
          have hgb := get_keep (hget _ hkl) sN
          rw [← hgd] at hgb
          obtain ⟨own, hown⟩ : ∃ own, own = ws.getD k [] := ⟨_, rfl⟩
          rw [← hown] at hgb
          have hown12 : own.length ≤ 12 := by
            rw [hown, hgd]
            exact (mor_ok hm (List.getElem_mem hkl)).1
          simp (disch := omega) [get_of l2, hgb]
          refine draw_to tab_ok (by kernel_rfl) (by kernel_rfl) (by rfl) ?_
          by_cases hke : k = (entT w ws i).2
          · rw [← hke, ← hown] at w2 w3 w4 w6 hout
            rw [← hke] at w1
            have hob : 1 ≤ own.length := by
              cases hq : own with
              | nil => exact absurd hq w2
              | cons a l => simp
            have hIe := hI0 (i + own.length) w6
            rw [encS_of_some w4] at hIe
            have hab := at_beq (w := w) (own := own) (i := i) w6
            rw [w3] at hab
            clear hown
            have he : own.isEmpty = false := by cases own with
              | nil => exact absurd rfl w2
              | cons a l => rfl
            have ea : ((i : Int) + own.length).toNat = i + own.length := by omega
            have hle' : (i : Int) + own.length ≤ w.length := by omega
            have hs0 : (0 : Int) ≤ (s : Nat) := by omega
            have hbq : ((y : Int) == (1 : Int) + (s : Nat)) = true := by rw [beq_iff_eq]; omega
            have hrl := rune_ltr (i := k) (by omega)
            simp (disch := omega) [he, ea, hle', hab, hIe, hIi, hs0, hbq]
            simp (disch := omega) [wrap_rune, hrl]
            refine Rnd.mk' (i + own.length, out ++ [ltr k]) (by simp only; omega) (by (repeat (first | exact km | refine kp rfl ?_ | refine km' rfl ?_))) (by simp (disch := omega)) ⟨rfl, by simp only; omega, ⟨s, w4⟩, f, by simp only; omega, ?_⟩
            simp only
            rw [List.append_assoc]
            exact hout
          · have hkb' : k < (entT w ws i).2 := by omega
            have hno := w7 k hkb'
            rw [← hown] at hno
            clear hown
            by_cases h1 : own = []
            · subst h1
              simp (disch := omega)
              exact Rnd.mk' (k + 1) (by omega) (by (repeat (first | exact km | refine kp rfl ?_ | refine km' rfl ?_))) (by simp (disch := omega)) ⟨rfl, by omega⟩
            · have he : own.isEmpty = false := by cases own with
                | nil => exact absurd rfl h1
                | cons a l => rfl
              by_cases hlong : i + own.length ≤ w.length
              · have hle' : (i : Int) + own.length ≤ w.length := by omega
                have ea : ((i : Int) + own.length).toNat = i + own.length := by omega
                have hab := at_beq (w := w) (own := own) (i := i) hlong
                cases hpre : own.isPrefixOf (w.drop i)
                · rw [hpre] at hab
                  simp (disch := omega) [he, ea, hle', hab]
                  exact Rnd.mk' (k + 1) (by omega) (by (repeat (first | exact km | refine kp rfl ?_ | refine km' rfl ?_))) (by simp (disch := omega)) ⟨rfl, by omega⟩
                · rw [hpre] at hab
                  have hIe := hI0 (i + own.length) hlong
                  cases hce : (entT w ws (i + own.length)).1 with
                  | none =>
                    have hneg : ¬ 0 ≤ encS (entT w ws (i + own.length)) := by rw [encS_of_none hce]; decide
                    generalize encS (entT w ws (i + own.length)) = ec at *
                    simp (disch := omega) [he, ea, hle', hab, hIe, hneg]
                    exact Rnd.mk' (k + 1) (by omega) (by (repeat (first | exact km | refine kp rfl ?_ | refine km' rfl ?_))) (by simp (disch := omega)) ⟨rfl, by omega⟩
                  | some s' =>
                    have hns := hno h1 hpre s' hce
                    have hsl : s' ≤ w.length := tabT_le w ws w.length _ (List.mem_of_getElem? (hent _ hlong)) s' hce
                    rw [encS_of_some hce] at hIe
                    have hs0 : (0 : Int) ≤ (s' : Nat) := by omega
                    have hbq : ((y : Int) == (1 : Int) + (s' : Nat)) = false := beq_eq_false_iff_ne.2 (by omega)
                    simp (disch := omega) [he, ea, hle', hab, hIe, hIi, hs0, hbq]
                    exact Rnd.mk' (k + 1) (by omega) (by (repeat (first | exact km | refine kp rfl ?_ | refine km' rfl ?_))) (by simp (disch := omega)) ⟨rfl, by omega⟩
              · have hle' : ¬ (i : Int) + own.length ≤ w.length := by omega
                simp (disch := omega) [he, hle']
                exact Rnd.mk' (k + 1) (by omega) (by (repeat (first | exact km | refine kp rfl ?_ | refine km' rfl ?_))) (by simp (disch := omega)) ⟨rfl, by omega⟩
        · have hi' : i = w.length := by omega
          rw [outF_end hlt, List.append_nil] at hout
          rw [← hout] at h
          simp (disch := omega)
          exact ret_sub (hs2.trans sN) h
  · rw [if_neg h0, if_neg h0] at h
    have hb : (codeM ws w == 0) = false := beq_eq_false_iff_ne.2 h0
    generalize codeM ws w = code at *
    simp (disch := omega) [hb, h0]
    exact ret_sub hs2 h
end Go.Proofs.YticejlplbibegaaGreatDoor

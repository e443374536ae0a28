/- Law: values make the factor at the first place. -/
import Derived.Test.YtbefijbmgmbphaaC60
import Derived.Test.YtbefijbmgmbphaaM16
namespace Go.Proofs.Ytbefijbmgmbphaa
open Go
set_option linter.unusedSimpArgs false
set_option linter.unusedVariables false

set_option maxRecDepth 4000 in
set_option maxHeartbeats 4000000 in
theorem law_FnPatterns (v : Value) (xs : List UInt8) (M : Mem) (R : Value → Mem → Prop) (hv : Rd M v (bytesV xs)) (hl : xs.length ≤ 9223372036854775807) (h : ∀ M', Sub M M' → R (.bool true) M') : Does Try.prog 6 [v] M R := by
  refine does_fn tab_ok Try.func6 rfl (by kernel_rfl) (by kernel_rfl) Try.ntmps6 Try.results6 rfl ?_
  simp (disch := omega)
  refine big_does v xs _ _ hv hl ?_
  by_cases hb : 4096 < xs.length
  · rw [decide_eq_true hb]
    simp (disch := omega)
    exact ret_of (h _ (Sub.refl _))
  rw [decide_eq_false hb]
  simp (disch := omega)
  refine drawFP_does v xs _ _ hv (by omega) ?_
  intro w p M1 s1 hw hp
  simp (disch := omega)
  refine impl_FirstPlace w p _ _ (by omega) (by omega) ?_
  intro v1 M2 o2
  simp (disch := omega)
  refine spec_FirstPlace w p _ _ (by omega) (by omega) ?_
  intro v2 M3 o3
  have hLl : (plL w p).length ≤ 3 := plL_le w p
  have rr := o2.rd.sub o3.sub
  simp (disch := omega)
  refine words9_does v1 v2 _ _ _ _ rr o3.rd (by omega) (by omega) ?_
  rw [beq_self_eq_true]
  simp (disch := omega)
  refine impl_HasPattern w p _ _ (by omega) (by omega) ?_
  simp (disch := omega) [tup2]
  refine spec_HasPattern w p _ _ (by omega) (by omega) ?_
  simp (disch := omega) [tup2]
  have s3 := s1.trans (o2.sub.trans o3.sub)
  refine drawFits_does v xs _ _ (hv.sub s3) (by omega) ?_
  intro u q M4 s4 hu hq
  have rr := rr.sub s4
  have s4 := s3.trans s4
  simp (disch := omega)
  refine impl_FitsPattern u q _ _ (by omega) (by omega) ?_
  simp (disch := omega) [tup2]
  refine spec_FitsPattern u q _ _ (by omega) (by omega) ?_
  simp (disch := omega) [tup2]
  obtain ⟨a1, c1, rfl, _⟩ := rr.opened
  rw [strs_length] at rr ⊢
  cases hC : isWord u && isPat q
  · have e1 : patC u q = 1 := by unfold patC; rw [hC]; rfl
    simp (disch := omega) [e1]
    cases hb2 : isWord w && isPat p
    · have e2 : patC w p = 1 := by unfold patC; rw [hb2]; rfl
      have e3 : plC w p = 1 := by unfold plC; rw [hb2]; rfl
      have e4 : plL w p = [] := by unfold plL; rw [hb2]; rfl
      simp (disch := omega) [e2, e3, e4]
      exact ret_of (h _ s4)
    · have hb' := hb2
      rw [Bool.and_eq_true] at hb'
      obtain ⟨hp1, hp8, hpv⟩ := isPat_in hb'.2
      have h60 := isWord_len hb'.1
      have hne : p ≠ [] := by rintro rfl; simp at hp1
      have hpl := place_is (w := w) (pat_lt hb'.2) hne
      have e2 : patC w p = 0 := by unfold patC; rw [hb2]; rfl
      cases hf : placeF w p with
      | none =>
        rw [hf] at hpl
        have hh : hasB w p = false := hpl
        have e3 : plC w p = 4 := by unfold plC; rw [hb2, hf]; rfl
        have e4 : plL w p = [] := by unfold plL; rw [hb2, hf]; rfl
        by_cases hAA : p = [65, 65]
        · subst hAA
          have hs : sqIn w = false := by rw [← has_sq]; exact hh
          simp (disch := omega) [e2, e3, e4, hh]
          refine impl_IsSquareFree w _ _ (by omega) ?_
          intro M5 s5
          have s4 := s4.trans s5
          have ew : wcode w = 0 := if_pos hb'.1
          simp (disch := omega) [tup2, ew, hb'.1, hh, hs, e3, e4]
          exact ret_of (h _ s4)
        · have hAA2 : (p == [65, 65]) = false := beq_eq_false_iff_ne.2 hAA
          simp (disch := omega) [e2, e3, e4, hh, hAA2]
          exact ret_of (h _ s4)
      | some r =>
        obtain ⟨j, V⟩ := r
        rw [hf] at hpl
        obtain ⟨hh, hj, hg, hpre⟩ := hpl
        have e3 : plC w p = 0 := by unfold plC; rw [hb2, hf]; rfl
        have e4 : plL w p = fillV V := by unfold plL; rw [hb2, hf]; rfl
        have e5 : plI w p = j := by unfold plI; rw [hb2, hf]; rfl
        by_cases hAA : p = [65, 65]
        · have hh2 := hh
          rw [hAA, has_sq] at hh2
          have hAA2 : (p == [65, 65]) = true := by rw [hAA]; rfl
          simp (disch := omega) [e2, e3, e4, hh, hAA2]
          refine impl_IsSquareFree w _ _ (by omega) ?_
          intro M5 s5
          have s4 := s4.trans s5
          have rr := rr.sub s5
          have ew : wcode w = 0 := if_pos hb'.1
          simp (disch := omega) [tup2, ew, hb'.1, hh, hh2, e3, e4]
          have hF : (fillV V).length ≤ 3 := by rw [← e4]; exact hLl
          rw [e4] at rr
          intro b9 hb9
          have hz0 : [Value.int .i64 (-1), Value.int .i64 (-1), Value.int .i64 (-1)] = ints (atL V 0) := by rw [atL_zero]; rfl
          have kat : ∀ k, (M5.put b9 (.cells true (ints (atL V k)) 3)) b9 = some (.cells true (ints (atL V k)) 3) := fun k => put_same _ _ _
          have s9 : ∀ k, Sub M5 (M5.put b9 (.cells true (ints (atL V k)) 3)) := fun k => (Sub.refl M5).put hb9 _
          have hV3 : V.length = 3 := hg.len
          have hnew : ∀ k, V.getD k [] ≠ [] ↔ occ p k := fun k => hg.new k (v0_get k)
          have hal := atL_len V
          rw [hz0]
          simp (disch := omega) [e4]
          refine loop_to tab_ok [27, 28, 29, 156, 157, 158, 159, 160, 161, 162, 163, 164, 165, 166, 167, 168, 169, 170, 171, 172, 173, 174, 175, 176, 177, 178, 179, 180, 181, 182, 183, 184, 185] (fun k : Nat => [(28, .int .u8 ((65 + k : Nat) : Int)), (27, .int .i64 (idxV V k : Nat))]) (fun k M' => M5.put b9 (.cells true (ints (atL V k)) 3) = M' ∧ k ≤ 3 ∧ idxV V k ≤ k) (fun k => 3 - k) 0 (by kernel_rfl) (by simp (disch := omega) [idxV_zero]) ⟨rfl, by omega, by rw [idxV_zero]; exact Nat.le_refl 0⟩ ?_
          rintro k M' g ⟨rfl, hk, hik⟩
          obtain ⟨K, hK⟩ : ∃ K, K = 65 + k := ⟨_, rfl⟩
          rw [← hK]
          by_cases hlt : k < 3
          · have hK1 : (K : Int) ≤ 67 := by omega
            have hKk : (K : Int) - 65 = k := by omega
            have hid := idxV_succ (V := V) (k := k) (by omega)
            have hK2 : (K : Int) + 1 = ((65 + (k + 1) : Nat) : Int) := by omega
            simp (disch := omega) [hK1]
            refine loop_to tab_ok [27, 29, 160, 161, 162, 163, 164, 165, 166, 167, 168, 169, 170, 171, 172, 173, 174, 175, 176, 177, 178, 179, 180, 181, 182, 183, 184, 185] (fun x : Nat × Bool => [(29, .int .i64 x.1), (27, .int .i64 ((idxV V k + (if x.2 then 1 else 0) : Nat) : Int))]) (fun x M' => M5.put b9 (.cells true (ints (atL V (if x.2 then k + 1 else k))) 3) = M' ∧ x.1 ≤ p.length ∧ (x.2 = false → ¬ occ (p.take x.1) k) ∧ (x.2 = true → occ p k)) (fun x => p.length - x.1) (0, false) (by kernel_rfl) (by simp (disch := omega)) ⟨rfl, by omega, fun _ => by rw [List.take_zero]; exact occ_nil k, fun q => by cases q⟩ ?_
            rintro ⟨i, fd⟩ M' g1 ⟨rfl, hi, hno, hyes⟩
            simp only at hi hno hyes
            cases fd with
            | false =>
              have hno := hno rfl
              simp only [Bool.false_eq_true, if_false, Nat.add_zero]
              have hgk : (M5.put b9 (.cells true (ints (atL V k)) 3)).get? b9 k = some (.int .i64 (-1)) := by
                rw [get_of (kat k), ints_get, atL_get V k hlt, if_neg (by omega)]; rfl
              by_cases hlt2 : i < p.length
              · have hpx : p[i]? = some p[i] := List.getElem?_eq_getElem hlt2
                have hpr := isV_range (List.all_eq_true.1 hpv _ (List.getElem_mem hlt2))
                have hot := occ_take (k := k) hlt2
                have hvi : vIdx p[i] = p[i].toNat - 65 := rfl
                have hocp : vIdx p[i] = k → occ p k := fun e => ⟨_, List.getElem_mem hlt2, e⟩
                rw [hvi] at hot hocp
                by_cases he : p[i].toNat - 65 = k
                · have hoc := hocp he
                  have he' : (p[i].toNat : Int) = K := by omega
                  have hst := atL_set hlt ((hnew k).2 hoc)
                  have halk := hal k
                  generalize p[i] = u at *
                  simp (disch := omega) [hpx, at_u8 hpx, he', hKk, hgk, kat k, ints_set, hst]
                  refine Rnd.mk' (i + 1, true) (by simp only; omega) (by (repeat (first | exact km | refine kp rfl ?_ | refine km' rfl ?_))) (by simp (disch := omega)) ⟨rfl, by simp only; omega, (fun q => by cases q), fun _ => hoc⟩
                · have he' : ¬ (p[i].toNat : Int) = K := by omega
                  generalize p[i] = u at *
                  simp (disch := omega) [hpx, at_u8 hpx, he', hKk, hgk]
                  refine Rnd.mk' (i + 1, false) (by simp only; omega) (by (repeat (first | exact km | refine kp rfl ?_ | refine km' rfl ?_))) (by simp (disch := omega)) ⟨rfl, by simp only; omega, fun _ h2 => (hot.1 h2).elim hno he, fun q => by cases q⟩
              · have hi' : i = p.length := by omega
                subst hi'
                rw [List.take_length] at hno
                have hVn : V.getD k [] = [] := Classical.byContradiction fun hn => hno ((hnew k).1 hn)
                rw [if_pos hVn] at hid
                have hsame := atL_same hVn
                simp (disch := omega)
                refine Rnd.mk' (k + 1) (by omega) (by (repeat (first | exact km | refine kp rfl ?_ | refine km' rfl ?_))) (by simp (disch := omega) [hid]; omega) ⟨by rw [hsame], by omega, by omega⟩
            | true =>
              have hoc := hyes rfl
              have hVn := (hnew k).2 hoc
              rw [if_neg hVn] at hid
              simp only [if_true]
              have hgk : (M5.put b9 (.cells true (ints (atL V (k + 1))) 3)).get? b9 k = some (.int .i64 (idxV V k : Nat)) := by
                rw [get_of (kat (k + 1)), ints_get, atL_get V (k + 1) hlt, if_pos ⟨by omega, hVn⟩]; rfl
              have hnn : ¬ ((idxV V k : Nat) : Int) < 0 := by omega
              by_cases hlt2 : i < p.length
              · simp (disch := omega) [hKk, hgk, hnn]
                refine Rnd.mk' (k + 1) (by omega) (by (repeat (first | exact km | refine kp rfl ?_ | refine km' rfl ?_))) (by simp (disch := omega) [hid]; omega) ⟨rfl, by omega, by omega⟩
              · have hi' : i = p.length := by omega
                subst hi'
                simp (disch := omega)
                refine Rnd.mk' (k + 1) (by omega) (by (repeat (first | exact km | refine kp rfl ?_ | refine km' rfl ?_))) (by simp (disch := omega) [hid]; omega) ⟨rfl, by omega, by omega⟩
          · have hk3 : k = 3 := by omega
            subst hk3
            have hK1 : ¬ (K : Int) ≤ 67 := by omega
            have hid := idxV_all (V := V) (k := 3) (by omega)
            have rr9 := rr.sub (s9 3)
            have s49 := s4.trans (s9 3)
            have k9 := kat 3
            have hget9 : ∀ x, occ p x → x < 3 → (M5.put b9 (.cells true (ints (atL V 3)) 3)).get? b9 x = some (.int .i64 (idxV V x : Nat)) := by
              intro x hx hx3
              rw [get_of k9, ints_get, atL_get V 3 hx3, if_pos ⟨hx3, (hnew x).2 hx⟩]; rfl
            generalize M5.put b9 (.cells true (ints (atL V 3)) 3) = N at *
            rw [hid]
            obtain ⟨a7, c7, he7, ha7⟩ := rr9.opened
            rw [strs_length] at he7 ha7
            injection he7 with q1 q2 q3
            subst q1
            simp (disch := omega) [hK1]
            refine loop_to tab_ok [25, 30, 190, 191, 192, 193, 194, 195, 196, 197, 198, 199, 200, 201, 202, 203, 204, 205, 206, 207] (fun i : Nat => [(30, .int .i64 i), (25, str (subV (p.take i) V))]) (fun i M' => N = M' ∧ i ≤ p.length) (fun i => p.length - i) 0 (by kernel_rfl) (by simp (disch := omega) [subV_nil]) ⟨rfl, by omega⟩ ?_
            rintro i M' g ⟨rfl, hi⟩
            by_cases hlt2 : i < p.length
            · have hpx : p[i]? = some p[i] := List.getElem?_eq_getElem hlt2
              have hpr := isV_range (List.all_eq_true.1 hpv _ (List.getElem_mem hlt2))
              have hoc : occ p (vIdx p[i]) := ⟨_, List.getElem_mem hlt2, rfl⟩
              have hvi : vIdx p[i] = p[i].toNat - 65 := rfl
              have hg9 := hget9 _ hoc (by omega)
              have hfa := fill_at (V := V) (k := vIdx p[i]) (by omega) ((hnew _).2 hoc)
              have hil := (List.getElem?_eq_some_iff.1 hfa).1
              have hsn := subV_snoc hlt2 V
              have hsl := subV_take_le p (i + 1) V
              have hll := hpre.length_le
              rw [List.length_drop] at hll
              rw [hsn, List.length_append] at hsl
              have hvk : (p[i].toNat : Int) - 65 = (vIdx p[i] : Nat) := by omega
              rcases ha7 with h0 | ⟨bb, oo, rfl, ha7⟩
              · omega
              have hgt := ha7 _ hil
              rw [strs_get, hfa] at hgt
              generalize idxV V (vIdx p[i]) = I0 at *
              generalize V.getD (vIdx p[i]) [] = z at *
              generalize vIdx p[i] = X at *
              generalize p[i] = u at *
              have hX3 : X < 3 := by omega
              simp (disch := omega) [hpx, at_u8 hpx, hvk, hg9, hgt]
              refine Rnd.mk' (i + 1) (by omega) (by (repeat (first | exact km | refine kp rfl ?_ | refine km' rfl ?_))) (by simp (disch := omega) [hsn]) ⟨rfl, by omega⟩
            · have hi' : i = p.length := by omega
              subst hi'
              rw [List.take_length]
              have hfp := fac_pre hb'.1 hj hpre
              have hll := hpre.length_le
              rw [List.length_drop] at hll
              simp (disch := omega) [e5]
              refine impl_FactorAt w j (subV p V).length _ _ (by omega) (by omega) (by omega) ?_
              intro M8 s8
              rw [hfp.1, hfp.2]
              simp (disch := omega) [tup2]
              exact ret_of (h _ (s49.trans s8))
        · have hAA2 : (p == [65, 65]) = false := beq_eq_false_iff_ne.2 hAA
          obtain ⟨M5, rfl⟩ : ∃ M5, M5 = M4 := ⟨_, rfl⟩
          simp (disch := omega) [e2, e3, e4, hh, hAA2]
          have hF : (fillV V).length ≤ 3 := by rw [← e4]; exact hLl
          rw [e4] at rr
          intro b9 hb9
          have hz0 : [Value.int .i64 (-1), Value.int .i64 (-1), Value.int .i64 (-1)] = ints (atL V 0) := by rw [atL_zero]; rfl
          have kat : ∀ k, (M5.put b9 (.cells true (ints (atL V k)) 3)) b9 = some (.cells true (ints (atL V k)) 3) := fun k => put_same _ _ _
          have s9 : ∀ k, Sub M5 (M5.put b9 (.cells true (ints (atL V k)) 3)) := fun k => (Sub.refl M5).put hb9 _
          have hV3 : V.length = 3 := hg.len
          have hnew : ∀ k, V.getD k [] ≠ [] ↔ occ p k := fun k => hg.new k (v0_get k)
          have hal := atL_len V
          rw [hz0]
          simp (disch := omega) [e4]
          refine loop_to tab_ok [27, 28, 29, 156, 157, 158, 159, 160, 161, 162, 163, 164, 165, 166, 167, 168, 169, 170, 171, 172, 173, 174, 175, 176, 177, 178, 179, 180, 181, 182, 183, 184, 185] (fun k : Nat => [(28, .int .u8 ((65 + k : Nat) : Int)), (27, .int .i64 (idxV V k : Nat))]) (fun k M' => M5.put b9 (.cells true (ints (atL V k)) 3) = M' ∧ k ≤ 3 ∧ idxV V k ≤ k) (fun k => 3 - k) 0 (by kernel_rfl) (by simp (disch := omega) [idxV_zero]) ⟨rfl, by omega, by rw [idxV_zero]; exact Nat.le_refl 0⟩ ?_
          rintro k M' g ⟨rfl, hk, hik⟩
          obtain ⟨K, hK⟩ : ∃ K, K = 65 + k := ⟨_, rfl⟩
          rw [← hK]
          by_cases hlt : k < 3
          · have hK1 : (K : Int) ≤ 67 := by omega
            have hKk : (K : Int) - 65 = k := by omega
            have hid := idxV_succ (V := V) (k := k) (by omega)
            have hK2 : (K : Int) + 1 = ((65 + (k + 1) : Nat) : Int) := by omega
            simp (disch := omega) [hK1]
            refine loop_to tab_ok [27, 29, 160, 161, 162, 163, 164, 165, 166, 167, 168, 169, 170, 171, 172, 173, 174, 175, 176, 177, 178, 179, 180, 181, 182, 183, 184, 185] (fun x : Nat × Bool => [(29, .int .i64 x.1), (27, .int .i64 ((idxV V k + (if x.2 then 1 else 0) : Nat) : Int))]) (fun x M' => M5.put b9 (.cells true (ints (atL V (if x.2 then k + 1 else k))) 3) = M' ∧ x.1 ≤ p.length ∧ (x.2 = false → ¬ occ (p.take x.1) k) ∧ (x.2 = true → occ p k)) (fun x => p.length - x.1) (0, false) (by kernel_rfl) (by simp (disch := omega)) ⟨rfl, by omega, fun _ => by rw [List.take_zero]; exact occ_nil k, fun q => by cases q⟩ ?_
            rintro ⟨i, fd⟩ M' g1 ⟨rfl, hi, hno, hyes⟩
            simp only at hi hno hyes
            cases fd with
            | false =>
              have hno := hno rfl
              simp only [Bool.false_eq_true, if_false, Nat.add_zero]
              have hgk : (M5.put b9 (.cells true (ints (atL V k)) 3)).get? b9 k = some (.int .i64 (-1)) := by
                rw [get_of (kat k), ints_get, atL_get V k hlt, if_neg (by omega)]; rfl
              by_cases hlt2 : i < p.length
              · have hpx : p[i]? = some p[i] := List.getElem?_eq_getElem hlt2
                have hpr := isV_range (List.all_eq_true.1 hpv _ (List.getElem_mem hlt2))
                have hot := occ_take (k := k) hlt2
                have hvi : vIdx p[i] = p[i].toNat - 65 := rfl
                have hocp : vIdx p[i] = k → occ p k := fun e => ⟨_, List.getElem_mem hlt2, e⟩
                rw [hvi] at hot hocp
                by_cases he : p[i].toNat - 65 = k
                · have hoc := hocp he
                  have he' : (p[i].toNat : Int) = K := by omega
                  have hst := atL_set hlt ((hnew k).2 hoc)
                  have halk := hal k
                  generalize p[i] = u at *
                  simp (disch := omega) [hpx, at_u8 hpx, he', hKk, hgk, kat k, ints_set, hst]
                  refine Rnd.mk' (i + 1, true) (by simp only; omega) (by (repeat (first | exact km | refine kp rfl ?_ | refine km' rfl ?_))) (by simp (disch := omega)) ⟨rfl, by simp only; omega, (fun q => by cases q), fun _ => hoc⟩
                · have he' : ¬ (p[i].toNat : Int) = K := by omega
                  generalize p[i] = u at *
                  simp (disch := omega) [hpx, at_u8 hpx, he', hKk, hgk]
                  refine Rnd.mk' (i + 1, false) (by simp only; omega) (by (repeat (first | exact km | refine kp rfl ?_ | refine km' rfl ?_))) (by simp (disch := omega)) ⟨rfl, by simp only; omega, fun _ h2 => (hot.1 h2).elim hno he, fun q => by cases q⟩
              · have hi' : i = p.length := by omega
                subst hi'
                rw [List.take_length] at hno
                have hVn : V.getD k [] = [] := Classical.byContradiction fun hn => hno ((hnew k).1 hn)
                rw [if_pos hVn] at hid
                have hsame := atL_same hVn
                simp (disch := omega)
                refine Rnd.mk' (k + 1) (by omega) (by (repeat (first | exact km | refine kp rfl ?_ | refine km' rfl ?_))) (by simp (disch := omega) [hid]; omega) ⟨by rw [hsame], by omega, by omega⟩
            | true =>
              have hoc := hyes rfl
              have hVn := (hnew k).2 hoc
              rw [if_neg hVn] at hid
              simp only [if_true]
              have hgk : (M5.put b9 (.cells true (ints (atL V (k + 1))) 3)).get? b9 k = some (.int .i64 (idxV V k : Nat)) := by
                rw [get_of (kat (k + 1)), ints_get, atL_get V (k + 1) hlt, if_pos ⟨by omega, hVn⟩]; rfl
              have hnn : ¬ ((idxV V k : Nat) : Int) < 0 := by omega
              by_cases hlt2 : i < p.length
              · simp (disch := omega) [hKk, hgk, hnn]
                refine Rnd.mk' (k + 1) (by omega) (by (repeat (first | exact km | refine kp rfl ?_ | refine km' rfl ?_))) (by simp (disch := omega) [hid]; omega) ⟨rfl, by omega, by omega⟩
              · have hi' : i = p.length := by omega
                subst hi'
                simp (disch := omega)
                refine Rnd.mk' (k + 1) (by omega) (by (repeat (first | exact km | refine kp rfl ?_ | refine km' rfl ?_))) (by simp (disch := omega) [hid]; omega) ⟨rfl, by omega, by omega⟩
          · have hk3 : k = 3 := by omega
            subst hk3
            have hK1 : ¬ (K : Int) ≤ 67 := by omega
            have hid := idxV_all (V := V) (k := 3) (by omega)
            have rr9 := rr.sub (s9 3)
            have s49 := s4.trans (s9 3)
            have k9 := kat 3
            have hget9 : ∀ x, occ p x → x < 3 → (M5.put b9 (.cells true (ints (atL V 3)) 3)).get? b9 x = some (.int .i64 (idxV V x : Nat)) := by
              intro x hx hx3
              rw [get_of k9, ints_get, atL_get V 3 hx3, if_pos ⟨hx3, (hnew x).2 hx⟩]; rfl
            generalize M5.put b9 (.cells true (ints (atL V 3)) 3) = N at *
            rw [hid]
            obtain ⟨a7, c7, he7, ha7⟩ := rr9.opened
            rw [strs_length] at he7 ha7
            injection he7 with q1 q2 q3
            subst q1
            simp (disch := omega) [hK1]
            refine loop_to tab_ok [25, 30, 190, 191, 192, 193, 194, 195, 196, 197, 198, 199, 200, 201, 202, 203, 204, 205, 206, 207] (fun i : Nat => [(30, .int .i64 i), (25, str (subV (p.take i) V))]) (fun i M' => N = M' ∧ i ≤ p.length) (fun i => p.length - i) 0 (by kernel_rfl) (by simp (disch := omega) [subV_nil]) ⟨rfl, by omega⟩ ?_
            rintro i M' g ⟨rfl, hi⟩
            by_cases hlt2 : i < p.length
            · have hpx : p[i]? = some p[i] := List.getElem?_eq_getElem hlt2
              have hpr := isV_range (List.all_eq_true.1 hpv _ (List.getElem_mem hlt2))
              have hoc : occ p (vIdx p[i]) := ⟨_, List.getElem_mem hlt2, rfl⟩
              have hvi : vIdx p[i] = p[i].toNat - 65 := rfl
              have hg9 := hget9 _ hoc (by omega)
              have hfa := fill_at (V := V) (k := vIdx p[i]) (by omega) ((hnew _).2 hoc)
              have hil := (List.getElem?_eq_some_iff.1 hfa).1
              have hsn := subV_snoc hlt2 V
              have hsl := subV_take_le p (i + 1) V
              have hll := hpre.length_le
              rw [List.length_drop] at hll
              rw [hsn, List.length_append] at hsl
              have hvk : (p[i].toNat : Int) - 65 = (vIdx p[i] : Nat) := by omega
              rcases ha7 with h0 | ⟨bb, oo, rfl, ha7⟩
              · omega
              have hgt := ha7 _ hil
              rw [strs_get, hfa] at hgt
              generalize idxV V (vIdx p[i]) = I0 at *
              generalize V.getD (vIdx p[i]) [] = z at *
              generalize vIdx p[i] = X at *
              generalize p[i] = u at *
              have hX3 : X < 3 := by omega
              simp (disch := omega) [hpx, at_u8 hpx, hvk, hg9, hgt]
              refine Rnd.mk' (i + 1) (by omega) (by (repeat (first | exact km | refine kp rfl ?_ | refine km' rfl ?_))) (by simp (disch := omega) [hsn]) ⟨rfl, by omega⟩
            · have hi' : i = p.length := by omega
              subst hi'
              rw [List.take_length]
              have hfp := fac_pre hb'.1 hj hpre
              have hll := hpre.length_le
              rw [List.length_drop] at hll
              simp (disch := omega) [e5]
              refine impl_FactorAt w j (subV p V).length _ _ (by omega) (by omega) (by omega) ?_
              intro M8 s8
              rw [hfp.1, hfp.2]
              simp (disch := omega) [tup2]
              exact ret_of (h _ (s49.trans s8))
  · have e1 : patC u q = 0 := by unfold patC; rw [hC]; rfl
    cases hfit : fitsB u q
    · simp (disch := omega) [e1, hC, hfit]
      cases hb2 : isWord w && isPat p
      · have e2 : patC w p = 1 := by unfold patC; rw [hb2]; rfl
        have e3 : plC w p = 1 := by unfold plC; rw [hb2]; rfl
        have e4 : plL w p = [] := by unfold plL; rw [hb2]; rfl
        simp (disch := omega) [e2, e3, e4]
        exact ret_of (h _ s4)
      · have hb' := hb2
        rw [Bool.and_eq_true] at hb'
        obtain ⟨hp1, hp8, hpv⟩ := isPat_in hb'.2
        have h60 := isWord_len hb'.1
        have hne : p ≠ [] := by rintro rfl; simp at hp1
        have hpl := place_is (w := w) (pat_lt hb'.2) hne
        have e2 : patC w p = 0 := by unfold patC; rw [hb2]; rfl
        cases hf : placeF w p with
        | none =>
          rw [hf] at hpl
          have hh : hasB w p = false := hpl
          have e3 : plC w p = 4 := by unfold plC; rw [hb2, hf]; rfl
          have e4 : plL w p = [] := by unfold plL; rw [hb2, hf]; rfl
          by_cases hAA : p = [65, 65]
          · subst hAA
            have hs : sqIn w = false := by rw [← has_sq]; exact hh
            simp (disch := omega) [e2, e3, e4, hh]
            refine impl_IsSquareFree w _ _ (by omega) ?_
            intro M5 s5
            have s4 := s4.trans s5
            have ew : wcode w = 0 := if_pos hb'.1
            simp (disch := omega) [tup2, ew, hb'.1, hh, hs, e3, e4]
            exact ret_of (h _ s4)
          · have hAA2 : (p == [65, 65]) = false := beq_eq_false_iff_ne.2 hAA
            simp (disch := omega) [e2, e3, e4, hh, hAA2]
            exact ret_of (h _ s4)
        | some r =>
          obtain ⟨j, V⟩ := r
          rw [hf] at hpl
          obtain ⟨hh, hj, hg, hpre⟩ := hpl
          have e3 : plC w p = 0 := by unfold plC; rw [hb2, hf]; rfl
          have e4 : plL w p = fillV V := by unfold plL; rw [hb2, hf]; rfl
          have e5 : plI w p = j := by unfold plI; rw [hb2, hf]; rfl
          by_cases hAA : p = [65, 65]
          · have hh2 := hh
            rw [hAA, has_sq] at hh2
            have hAA2 : (p == [65, 65]) = true := by rw [hAA]; rfl
            simp (disch := omega) [e2, e3, e4, hh, hAA2]
            refine impl_IsSquareFree w _ _ (by omega) ?_
            intro M5 s5
            have s4 := s4.trans s5
            have rr := rr.sub s5
            have ew : wcode w = 0 := if_pos hb'.1
            simp (disch := omega) [tup2, ew, hb'.1, hh, hh2, e3, e4]
            have hF : (fillV V).length ≤ 3 := by rw [← e4]; exact hLl
            rw [e4] at rr
            intro b9 hb9
            have hz0 : [Value.int .i64 (-1), Value.int .i64 (-1), Value.int .i64 (-1)] = ints (atL V 0) := by rw [atL_zero]; rfl
            have kat : ∀ k, (M5.put b9 (.cells true (ints (atL V k)) 3)) b9 = some (.cells true (ints (atL V k)) 3) := fun k => put_same _ _ _
            have s9 : ∀ k, Sub M5 (M5.put b9 (.cells true (ints (atL V k)) 3)) := fun k => (Sub.refl M5).put hb9 _
            have hV3 : V.length = 3 := hg.len
            have hnew : ∀ k, V.getD k [] ≠ [] ↔ occ p k := fun k => hg.new k (v0_get k)
            have hal := atL_len V
            rw [hz0]
            simp (disch := omega) [e4]
            refine loop_to tab_ok [27, 28, 29, 156, 157, 158, 159, 160, 161, 162, 163, 164, 165, 166, 167, 168, 169, 170, 171, 172, 173, 174, 175, 176, 177, 178, 179, 180, 181, 182, 183, 184, 185] (fun k : Nat => [(28, .int .u8 ((65 + k : Nat) : Int)), (27, .int .i64 (idxV V k : Nat))]) (fun k M' => M5.put b9 (.cells true (ints (atL V k)) 3) = M' ∧ k ≤ 3 ∧ idxV V k ≤ k) (fun k => 3 - k) 0 (by kernel_rfl) (by simp (disch := omega) [idxV_zero]) ⟨rfl, by omega, by rw [idxV_zero]; exact Nat.le_refl 0⟩ ?_
            rintro k M' g ⟨rfl, hk, hik⟩
            obtain ⟨K, hK⟩ : ∃ K, K = 65 + k := ⟨_, rfl⟩
            rw [← hK]
            by_cases hlt : k < 3
            · have hK1 : (K : Int) ≤ 67 := by omega
              have hKk : (K : Int) - 65 = k := by omega
              have hid := idxV_succ (V := V) (k := k) (by omega)
              have hK2 : (K : Int) + 1 = ((65 + (k + 1) : Nat) : Int) := by omega
              simp (disch := omega) [hK1]
              refine loop_to tab_ok [27, 29, 160, 161, 162, 163, 164, 165, 166, 167, 168, 169, 170, 171, 172, 173, 174, 175, 176, 177, 178, 179, 180, 181, 182, 183, 184, 185] (fun x : Nat × Bool => [(29, .int .i64 x.1), (27, .int .i64 ((idxV V k + (if x.2 then 1 else 0) : Nat) : Int))]) (fun x M' => M5.put b9 (.cells true (ints (atL V (if x.2 then k + 1 else k))) 3) = M' ∧ x.1 ≤ p.length ∧ (x.2 = false → ¬ occ (p.take x.1) k) ∧ (x.2 = true → occ p k)) (fun x => p.length - x.1) (0, false) (by kernel_rfl) (by simp (disch := omega)) ⟨rfl, by omega, fun _ => by rw [List.take_zero]; exact occ_nil k, fun q => by cases q⟩ ?_
              rintro ⟨i, fd⟩ M' g1 ⟨rfl, hi, hno, hyes⟩
              simp only at hi hno hyes
              cases fd with
              | false =>
                have hno := hno rfl
                simp only [Bool.false_eq_true, if_false, Nat.add_zero]
                have hgk : (M5.put b9 (.cells true (ints (atL V k)) 3)).get? b9 k = some (.int .i64 (-1)) := by
                  rw [get_of (kat k), ints_get, atL_get V k hlt, if_neg (by omega)]; rfl
                by_cases hlt2 : i < p.length
                · have hpx : p[i]? = some p[i] := List.getElem?_eq_getElem hlt2
                  have hpr := isV_range (List.all_eq_true.1 hpv _ (List.getElem_mem hlt2))
                  have hot := occ_take (k := k) hlt2
                  have hvi : vIdx p[i] = p[i].toNat - 65 := rfl
                  have hocp : vIdx p[i] = k → occ p k := fun e => ⟨_, List.getElem_mem hlt2, e⟩
                  rw [hvi] at hot hocp
                  by_cases he : p[i].toNat - 65 = k
                  · have hoc := hocp he
                    have he' : (p[i].toNat : Int) = K := by omega
                    have hst := atL_set hlt ((hnew k).2 hoc)
                    have halk := hal k
                    generalize p[i] = u at *
                    simp (disch := omega) [hpx, at_u8 hpx, he', hKk, hgk, kat k, ints_set, hst]
                    refine Rnd.mk' (i + 1, true) (by simp only; omega) (by (repeat (first | exact km | refine kp rfl ?_ | refine km' rfl ?_))) (by simp (disch := omega)) ⟨rfl, by simp only; omega, (fun q => by cases q), fun _ => hoc⟩
                  · have he' : ¬ (p[i].toNat : Int) = K := by omega
                    generalize p[i] = u at *
                    simp (disch := omega) [hpx, at_u8 hpx, he', hKk, hgk]
                    refine Rnd.mk' (i + 1, false) (by simp only; omega) (by (repeat (first | exact km | refine kp rfl ?_ | refine km' rfl ?_))) (by simp (disch := omega)) ⟨rfl, by simp only; omega, fun _ h2 => (hot.1 h2).elim hno he, fun q => by cases q⟩
                · have hi' : i = p.length := by omega
                  subst hi'
                  rw [List.take_length] at hno
                  have hVn : V.getD k [] = [] := Classical.byContradiction fun hn => hno ((hnew k).1 hn)
                  rw [if_pos hVn] at hid
                  have hsame := atL_same hVn
                  simp (disch := omega)
                  refine Rnd.mk' (k + 1) (by omega) (by (repeat (first | exact km | refine kp rfl ?_ | refine km' rfl ?_))) (by simp (disch := omega) [hid]; omega) ⟨by rw [hsame], by omega, by omega⟩
              | true =>
                have hoc := hyes rfl
                have hVn := (hnew k).2 hoc
                rw [if_neg hVn] at hid
                simp only [if_true]
                have hgk : (M5.put b9 (.cells true (ints (atL V (k + 1))) 3)).get? b9 k = some (.int .i64 (idxV V k : Nat)) := by
                  rw [get_of (kat (k + 1)), ints_get, atL_get V (k + 1) hlt, if_pos ⟨by omega, hVn⟩]; rfl
                have hnn : ¬ ((idxV V k : Nat) : Int) < 0 := by omega
                by_cases hlt2 : i < p.length
                · simp (disch := omega) [hKk, hgk, hnn]
                  refine Rnd.mk' (k + 1) (by omega) (by (repeat (first | exact km | refine kp rfl ?_ | refine km' rfl ?_))) (by simp (disch := omega) [hid]; omega) ⟨rfl, by omega, by omega⟩
                · have hi' : i = p.length := by omega
                  subst hi'
                  simp (disch := omega)
                  refine Rnd.mk' (k + 1) (by omega) (by (repeat (first | exact km | refine kp rfl ?_ | refine km' rfl ?_))) (by simp (disch := omega) [hid]; omega) ⟨rfl, by omega, by omega⟩
            · have hk3 : k = 3 := by omega
              subst hk3
              have hK1 : ¬ (K : Int) ≤ 67 := by omega
              have hid := idxV_all (V := V) (k := 3) (by omega)
              have rr9 := rr.sub (s9 3)
              have s49 := s4.trans (s9 3)
              have k9 := kat 3
              have hget9 : ∀ x, occ p x → x < 3 → (M5.put b9 (.cells true (ints (atL V 3)) 3)).get? b9 x = some (.int .i64 (idxV V x : Nat)) := by
                intro x hx hx3
                rw [get_of k9, ints_get, atL_get V 3 hx3, if_pos ⟨hx3, (hnew x).2 hx⟩]; rfl
              generalize M5.put b9 (.cells true (ints (atL V 3)) 3) = N at *
              rw [hid]
              obtain ⟨a7, c7, he7, ha7⟩ := rr9.opened
              rw [strs_length] at he7 ha7
              injection he7 with q1 q2 q3
              subst q1
              simp (disch := omega) [hK1]
              refine loop_to tab_ok [25, 30, 190, 191, 192, 193, 194, 195, 196, 197, 198, 199, 200, 201, 202, 203, 204, 205, 206, 207] (fun i : Nat => [(30, .int .i64 i), (25, str (subV (p.take i) V))]) (fun i M' => N = M' ∧ i ≤ p.length) (fun i => p.length - i) 0 (by kernel_rfl) (by simp (disch := omega) [subV_nil]) ⟨rfl, by omega⟩ ?_
              rintro i M' g ⟨rfl, hi⟩
              by_cases hlt2 : i < p.length
              · have hpx : p[i]? = some p[i] := List.getElem?_eq_getElem hlt2
                have hpr := isV_range (List.all_eq_true.1 hpv _ (List.getElem_mem hlt2))
                have hoc : occ p (vIdx p[i]) := ⟨_, List.getElem_mem hlt2, rfl⟩
                have hvi : vIdx p[i] = p[i].toNat - 65 := rfl
                have hg9 := hget9 _ hoc (by omega)
                have hfa := fill_at (V := V) (k := vIdx p[i]) (by omega) ((hnew _).2 hoc)
                have hil := (List.getElem?_eq_some_iff.1 hfa).1
                have hsn := subV_snoc hlt2 V
                have hsl := subV_take_le p (i + 1) V
                have hll := hpre.length_le
                rw [List.length_drop] at hll
                rw [hsn, List.length_append] at hsl
                have hvk : (p[i].toNat : Int) - 65 = (vIdx p[i] : Nat) := by omega
                rcases ha7 with h0 | ⟨bb, oo, rfl, ha7⟩
                · omega
                have hgt := ha7 _ hil
                rw [strs_get, hfa] at hgt
                generalize idxV V (vIdx p[i]) = I0 at *
                generalize V.getD (vIdx p[i]) [] = z at *
                generalize vIdx p[i] = X at *
                generalize p[i] = u at *
                have hX3 : X < 3 := by omega
                simp (disch := omega) [hpx, at_u8 hpx, hvk, hg9, hgt]
                refine Rnd.mk' (i + 1) (by omega) (by (repeat (first | exact km | refine kp rfl ?_ | refine km' rfl ?_))) (by simp (disch := omega) [hsn]) ⟨rfl, by omega⟩
              · have hi' : i = p.length := by omega
                subst hi'
                rw [List.take_length]
                have hfp := fac_pre hb'.1 hj hpre
                have hll := hpre.length_le
                rw [List.length_drop] at hll
                simp (disch := omega) [e5]
                refine impl_FactorAt w j (subV p V).length _ _ (by omega) (by omega) (by omega) ?_
                intro M8 s8
                rw [hfp.1, hfp.2]
                simp (disch := omega) [tup2]
                exact ret_of (h _ (s49.trans s8))
          · have hAA2 : (p == [65, 65]) = false := beq_eq_false_iff_ne.2 hAA
            obtain ⟨M5, rfl⟩ : ∃ M5, M5 = M4 := ⟨_, rfl⟩
            simp (disch := omega) [e2, e3, e4, hh, hAA2]
            have hF : (fillV V).length ≤ 3 := by rw [← e4]; exact hLl
            rw [e4] at rr
            intro b9 hb9
            have hz0 : [Value.int .i64 (-1), Value.int .i64 (-1), Value.int .i64 (-1)] = ints (atL V 0) := by rw [atL_zero]; rfl
            have kat : ∀ k, (M5.put b9 (.cells true (ints (atL V k)) 3)) b9 = some (.cells true (ints (atL V k)) 3) := fun k => put_same _ _ _
            have s9 : ∀ k, Sub M5 (M5.put b9 (.cells true (ints (atL V k)) 3)) := fun k => (Sub.refl M5).put hb9 _
            have hV3 : V.length = 3 := hg.len
            have hnew : ∀ k, V.getD k [] ≠ [] ↔ occ p k := fun k => hg.new k (v0_get k)
            have hal := atL_len V
            rw [hz0]
            simp (disch := omega) [e4]
            refine loop_to tab_ok [27, 28, 29, 156, 157, 158, 159, 160, 161, 162, 163, 164, 165, 166, 167, 168, 169, 170, 171, 172, 173, 174, 175, 176, 177, 178, 179, 180, 181, 182, 183, 184, 185] (fun k : Nat => [(28, .int .u8 ((65 + k : Nat) : Int)), (27, .int .i64 (idxV V k : Nat))]) (fun k M' => M5.put b9 (.cells true (ints (atL V k)) 3) = M' ∧ k ≤ 3 ∧ idxV V k ≤ k) (fun k => 3 - k) 0 (by kernel_rfl) (by simp (disch := omega) [idxV_zero]) ⟨rfl, by omega, by rw [idxV_zero]; exact Nat.le_refl 0⟩ ?_
            rintro k M' g ⟨rfl, hk, hik⟩
            obtain ⟨K, hK⟩ : ∃ K, K = 65 + k := ⟨_, rfl⟩
            rw [← hK]
            by_cases hlt : k < 3
            · have hK1 : (K : Int) ≤ 67 := by omega
              have hKk : (K : Int) - 65 = k := by omega
              have hid := idxV_succ (V := V) (k := k) (by omega)
              have hK2 : (K : Int) + 1 = ((65 + (k + 1) : Nat) : Int) := by omega
              simp (disch := omega) [hK1]
              refine loop_to tab_ok [27, 29, 160, 161, 162, 163, 164, 165, 166, 167, 168, 169, 170, 171, 172, 173, 174, 175, 176, 177, 178, 179, 180, 181, 182, 183, 184, 185] (fun x : Nat × Bool => [(29, .int .i64 x.1), (27, .int .i64 ((idxV V k + (if x.2 then 1 else 0) : Nat) : Int))]) (fun x M' => M5.put b9 (.cells true (ints (atL V (if x.2 then k + 1 else k))) 3) = M' ∧ x.1 ≤ p.length ∧ (x.2 = false → ¬ occ (p.take x.1) k) ∧ (x.2 = true → occ p k)) (fun x => p.length - x.1) (0, false) (by kernel_rfl) (by simp (disch := omega)) ⟨rfl, by omega, fun _ => by rw [List.take_zero]; exact occ_nil k, fun q => by cases q⟩ ?_
              rintro ⟨i, fd⟩ M' g1 ⟨rfl, hi, hno, hyes⟩
              simp only at hi hno hyes
              cases fd with
              | false =>
                have hno := hno rfl
                simp only [Bool.false_eq_true, if_false, Nat.add_zero]
                have hgk : (M5.put b9 (.cells true (ints (atL V k)) 3)).get? b9 k = some (.int .i64 (-1)) := by
                  rw [get_of (kat k), ints_get, atL_get V k hlt, if_neg (by omega)]; rfl
                by_cases hlt2 : i < p.length
                · have hpx : p[i]? = some p[i] := List.getElem?_eq_getElem hlt2
                  have hpr := isV_range (List.all_eq_true.1 hpv _ (List.getElem_mem hlt2))
                  have hot := occ_take (k := k) hlt2
                  have hvi : vIdx p[i] = p[i].toNat - 65 := rfl
                  have hocp : vIdx p[i] = k → occ p k := fun e => ⟨_, List.getElem_mem hlt2, e⟩
                  rw [hvi] at hot hocp
                  by_cases he : p[i].toNat - 65 = k
                  · have hoc := hocp he
                    have he' : (p[i].toNat : Int) = K := by omega
                    have hst := atL_set hlt ((hnew k).2 hoc)
                    have halk := hal k
                    generalize p[i] = u at *
                    simp (disch := omega) [hpx, at_u8 hpx, he', hKk, hgk, kat k, ints_set, hst]
                    refine Rnd.mk' (i + 1, true) (by simp only; omega) (by (repeat (first | exact km | refine kp rfl ?_ | refine km' rfl ?_))) (by simp (disch := omega)) ⟨rfl, by simp only; omega, (fun q => by cases q), fun _ => hoc⟩
                  · have he' : ¬ (p[i].toNat : Int) = K := by omega
                    generalize p[i] = u at *
                    simp (disch := omega) [hpx, at_u8 hpx, he', hKk, hgk]
                    refine Rnd.mk' (i + 1, false) (by simp only; omega) (by (repeat (first | exact km | refine kp rfl ?_ | refine km' rfl ?_))) (by simp (disch := omega)) ⟨rfl, by simp only; omega, fun _ h2 => (hot.1 h2).elim hno he, fun q => by cases q⟩
                · have hi' : i = p.length := by omega
                  subst hi'
                  rw [List.take_length] at hno
                  have hVn : V.getD k [] = [] := Classical.byContradiction fun hn => hno ((hnew k).1 hn)
                  rw [if_pos hVn] at hid
                  have hsame := atL_same hVn
                  simp (disch := omega)
                  refine Rnd.mk' (k + 1) (by omega) (by (repeat (first | exact km | refine kp rfl ?_ | refine km' rfl ?_))) (by simp (disch := omega) [hid]; omega) ⟨by rw [hsame], by omega, by omega⟩
              | true =>
                have hoc := hyes rfl
                have hVn := (hnew k).2 hoc
                rw [if_neg hVn] at hid
                simp only [if_true]
                have hgk : (M5.put b9 (.cells true (ints (atL V (k + 1))) 3)).get? b9 k = some (.int .i64 (idxV V k : Nat)) := by
                  rw [get_of (kat (k + 1)), ints_get, atL_get V (k + 1) hlt, if_pos ⟨by omega, hVn⟩]; rfl
                have hnn : ¬ ((idxV V k : Nat) : Int) < 0 := by omega
                by_cases hlt2 : i < p.length
                · simp (disch := omega) [hKk, hgk, hnn]
                  refine Rnd.mk' (k + 1) (by omega) (by (repeat (first | exact km | refine kp rfl ?_ | refine km' rfl ?_))) (by simp (disch := omega) [hid]; omega) ⟨rfl, by omega, by omega⟩
                · have hi' : i = p.length := by omega
                  subst hi'
                  simp (disch := omega)
                  refine Rnd.mk' (k + 1) (by omega) (by (repeat (first | exact km | refine kp rfl ?_ | refine km' rfl ?_))) (by simp (disch := omega) [hid]; omega) ⟨rfl, by omega, by omega⟩
            · have hk3 : k = 3 := by omega
              subst hk3
              have hK1 : ¬ (K : Int) ≤ 67 := by omega
              have hid := idxV_all (V := V) (k := 3) (by omega)
              have rr9 := rr.sub (s9 3)
              have s49 := s4.trans (s9 3)
              have k9 := kat 3
              have hget9 : ∀ x, occ p x → x < 3 → (M5.put b9 (.cells true (ints (atL V 3)) 3)).get? b9 x = some (.int .i64 (idxV V x : Nat)) := by
                intro x hx hx3
                rw [get_of k9, ints_get, atL_get V 3 hx3, if_pos ⟨hx3, (hnew x).2 hx⟩]; rfl
              generalize M5.put b9 (.cells true (ints (atL V 3)) 3) = N at *
              rw [hid]
              obtain ⟨a7, c7, he7, ha7⟩ := rr9.opened
              rw [strs_length] at he7 ha7
              injection he7 with q1 q2 q3
              subst q1
              simp (disch := omega) [hK1]
              refine loop_to tab_ok [25, 30, 190, 191, 192, 193, 194, 195, 196, 197, 198, 199, 200, 201, 202, 203, 204, 205, 206, 207] (fun i : Nat => [(30, .int .i64 i), (25, str (subV (p.take i) V))]) (fun i M' => N = M' ∧ i ≤ p.length) (fun i => p.length - i) 0 (by kernel_rfl) (by simp (disch := omega) [subV_nil]) ⟨rfl, by omega⟩ ?_
              rintro i M' g ⟨rfl, hi⟩
              by_cases hlt2 : i < p.length
              · have hpx : p[i]? = some p[i] := List.getElem?_eq_getElem hlt2
                have hpr := isV_range (List.all_eq_true.1 hpv _ (List.getElem_mem hlt2))
                have hoc : occ p (vIdx p[i]) := ⟨_, List.getElem_mem hlt2, rfl⟩
                have hvi : vIdx p[i] = p[i].toNat - 65 := rfl
                have hg9 := hget9 _ hoc (by omega)
                have hfa := fill_at (V := V) (k := vIdx p[i]) (by omega) ((hnew _).2 hoc)
                have hil := (List.getElem?_eq_some_iff.1 hfa).1
                have hsn := subV_snoc hlt2 V
                have hsl := subV_take_le p (i + 1) V
                have hll := hpre.length_le
                rw [List.length_drop] at hll
                rw [hsn, List.length_append] at hsl
                have hvk : (p[i].toNat : Int) - 65 = (vIdx p[i] : Nat) := by omega
                rcases ha7 with h0 | ⟨bb, oo, rfl, ha7⟩
                · omega
                have hgt := ha7 _ hil
                rw [strs_get, hfa] at hgt
                generalize idxV V (vIdx p[i]) = I0 at *
                generalize V.getD (vIdx p[i]) [] = z at *
                generalize vIdx p[i] = X at *
                generalize p[i] = u at *
                have hX3 : X < 3 := by omega
                simp (disch := omega) [hpx, at_u8 hpx, hvk, hg9, hgt]
                refine Rnd.mk' (i + 1) (by omega) (by (repeat (first | exact km | refine kp rfl ?_ | refine km' rfl ?_))) (by simp (disch := omega) [hsn]) ⟨rfl, by omega⟩
              · have hi' : i = p.length := by omega
                subst hi'
                rw [List.take_length]
                have hfp := fac_pre hb'.1 hj hpre
                have hll := hpre.length_le
                rw [List.length_drop] at hll
                simp (disch := omega) [e5]
                refine impl_FactorAt w j (subV p V).length _ _ (by omega) (by omega) (by omega) ?_
                intro M8 s8
                rw [hfp.1, hfp.2]
                simp (disch := omega) [tup2]
                exact ret_of (h _ (s49.trans s8))
    · rw [Bool.and_eq_true] at hC
      have hqn : q ≠ [] := by rintro rfl; have := (isPat_in hC.2).1; simp at this
      have hhu := fits_has (pat_lt hC.2) hqn hfit
      simp (disch := omega) [e1, hC.1, hC.2, hfit]
      refine impl_HasPattern u q _ _ (by omega) (by omega) ?_
      simp (disch := omega) [tup2, e1, hC.1, hC.2, hhu]
      cases hb2 : isWord w && isPat p
      · have e2 : patC w p = 1 := by unfold patC; rw [hb2]; rfl
        have e3 : plC w p = 1 := by unfold plC; rw [hb2]; rfl
        have e4 : plL w p = [] := by unfold plL; rw [hb2]; rfl
        simp (disch := omega) [e2, e3, e4]
        exact ret_of (h _ s4)
      · have hb' := hb2
        rw [Bool.and_eq_true] at hb'
        obtain ⟨hp1, hp8, hpv⟩ := isPat_in hb'.2
        have h60 := isWord_len hb'.1
        have hne : p ≠ [] := by rintro rfl; simp at hp1
        have hpl := place_is (w := w) (pat_lt hb'.2) hne
        have e2 : patC w p = 0 := by unfold patC; rw [hb2]; rfl
        cases hf : placeF w p with
        | none =>
          rw [hf] at hpl
          have hh : hasB w p = false := hpl
          have e3 : plC w p = 4 := by unfold plC; rw [hb2, hf]; rfl
          have e4 : plL w p = [] := by unfold plL; rw [hb2, hf]; rfl
          by_cases hAA : p = [65, 65]
          · subst hAA
            have hs : sqIn w = false := by rw [← has_sq]; exact hh
            simp (disch := omega) [e2, e3, e4, hh]
            refine impl_IsSquareFree w _ _ (by omega) ?_
            intro M5 s5
            have s4 := s4.trans s5
            have ew : wcode w = 0 := if_pos hb'.1
            simp (disch := omega) [tup2, ew, hb'.1, hh, hs, e3, e4]
            exact ret_of (h _ s4)
          · have hAA2 : (p == [65, 65]) = false := beq_eq_false_iff_ne.2 hAA
            simp (disch := omega) [e2, e3, e4, hh, hAA2]
            exact ret_of (h _ s4)
        | some r =>
          obtain ⟨j, V⟩ := r
          rw [hf] at hpl
          obtain ⟨hh, hj, hg, hpre⟩ := hpl
          have e3 : plC w p = 0 := by unfold plC; rw [hb2, hf]; rfl
          have e4 : plL w p = fillV V := by unfold plL; rw [hb2, hf]; rfl
          have e5 : plI w p = j := by unfold plI; rw [hb2, hf]; rfl
          by_cases hAA : p = [65, 65]
          · have hh2 := hh
            rw [hAA, has_sq] at hh2
            have hAA2 : (p == [65, 65]) = true := by rw [hAA]; rfl
            simp (disch := omega) [e2, e3, e4, hh, hAA2]
            refine impl_IsSquareFree w _ _ (by omega) ?_
            intro M5 s5
            have s4 := s4.trans s5
            have rr := rr.sub s5
            have ew : wcode w = 0 := if_pos hb'.1
            simp (disch := omega) [tup2, ew, hb'.1, hh, hh2, e3, e4]
            have hF : (fillV V).length ≤ 3 := by rw [← e4]; exact hLl
            rw [e4] at rr
            intro b9 hb9
            have hz0 : [Value.int .i64 (-1), Value.int .i64 (-1), Value.int .i64 (-1)] = ints (atL V 0) := by rw [atL_zero]; rfl
            have kat : ∀ k, (M5.put b9 (.cells true (ints (atL V k)) 3)) b9 = some (.cells true (ints (atL V k)) 3) := fun k => put_same _ _ _
            have s9 : ∀ k, Sub M5 (M5.put b9 (.cells true (ints (atL V k)) 3)) := fun k => (Sub.refl M5).put hb9 _
            have hV3 : V.length = 3 := hg.len
            have hnew : ∀ k, V.getD k [] ≠ [] ↔ occ p k := fun k => hg.new k (v0_get k)
            have hal := atL_len V
            rw [hz0]
            simp (disch := omega) [e4]
            refine loop_to tab_ok [27, 28, 29, 156, 157, 158, 159, 160, 161, 162, 163, 164, 165, 166, 167, 168, 169, 170, 171, 172, 173, 174, 175, 176, 177, 178, 179, 180, 181, 182, 183, 184, 185] (fun k : Nat => [(28, .int .u8 ((65 + k : Nat) : Int)), (27, .int .i64 (idxV V k : Nat))]) (fun k M' => M5.put b9 (.cells true (ints (atL V k)) 3) = M' ∧ k ≤ 3 ∧ idxV V k ≤ k) (fun k => 3 - k) 0 (by kernel_rfl) (by simp (disch := omega) [idxV_zero]) ⟨rfl, by omega, by rw [idxV_zero]; exact Nat.le_refl 0⟩ ?_
            rintro k M' g ⟨rfl, hk, hik⟩
            obtain ⟨K, hK⟩ : ∃ K, K = 65 + k := ⟨_, rfl⟩
            rw [← hK]
            by_cases hlt : k < 3
            · have hK1 : (K : Int) ≤ 67 := by omega
              have hKk : (K : Int) - 65 = k := by omega
              have hid := idxV_succ (V := V) (k := k) (by omega)
              have hK2 : (K : Int) + 1 = ((65 + (k + 1) : Nat) : Int) := by omega
              simp (disch := omega) [hK1]
              refine loop_to tab_ok [27, 29, 160, 161, 162, 163, 164, 165, 166, 167, 168, 169, 170, 171, 172, 173, 174, 175, 176, 177, 178, 179, 180, 181, 182, 183, 184, 185] (fun x : Nat × Bool => [(29, .int .i64 x.1), (27, .int .i64 ((idxV V k + (if x.2 then 1 else 0) : Nat) : Int))]) (fun x M' => M5.put b9 (.cells true (ints (atL V (if x.2 then k + 1 else k))) 3) = M' ∧ x.1 ≤ p.length ∧ (x.2 = false → ¬ occ (p.take x.1) k) ∧ (x.2 = true → occ p k)) (fun x => p.length - x.1) (0, false) (by kernel_rfl) (by simp (disch := omega)) ⟨rfl, by omega, fun _ => by rw [List.take_zero]; exact occ_nil k, fun q => by cases q⟩ ?_
              rintro ⟨i, fd⟩ M' g1 ⟨rfl, hi, hno, hyes⟩
              simp only at hi hno hyes
              cases fd with
              | false =>
                have hno := hno rfl
                simp only [Bool.false_eq_true, if_false, Nat.add_zero]
                have hgk : (M5.put b9 (.cells true (ints (atL V k)) 3)).get? b9 k = some (.int .i64 (-1)) := by
                  rw [get_of (kat k), ints_get, atL_get V k hlt, if_neg (by omega)]; rfl
                by_cases hlt2 : i < p.length
                · have hpx : p[i]? = some p[i] := List.getElem?_eq_getElem hlt2
                  have hpr := isV_range (List.all_eq_true.1 hpv _ (List.getElem_mem hlt2))
                  have hot := occ_take (k := k) hlt2
                  have hvi : vIdx p[i] = p[i].toNat - 65 := rfl
                  have hocp : vIdx p[i] = k → occ p k := fun e => ⟨_, List.getElem_mem hlt2, e⟩
                  rw [hvi] at hot hocp
                  by_cases he : p[i].toNat - 65 = k
                  · have hoc := hocp he
                    have he' : (p[i].toNat : Int) = K := by omega
                    have hst := atL_set hlt ((hnew k).2 hoc)
                    have halk := hal k
                    generalize p[i] = u at *
                    simp (disch := omega) [hpx, at_u8 hpx, he', hKk, hgk, kat k, ints_set, hst]
                    refine Rnd.mk' (i + 1, true) (by simp only; omega) (by (repeat (first | exact km | refine kp rfl ?_ | refine km' rfl ?_))) (by simp (disch := omega)) ⟨rfl, by simp only; omega, (fun q => by cases q), fun _ => hoc⟩
                  · have he' : ¬ (p[i].toNat : Int) = K := by omega
                    generalize p[i] = u at *
                    simp (disch := omega) [hpx, at_u8 hpx, he', hKk, hgk]
                    refine Rnd.mk' (i + 1, false) (by simp only; omega) (by (repeat (first | exact km | refine kp rfl ?_ | refine km' rfl ?_))) (by simp (disch := omega)) ⟨rfl, by simp only; omega, fun _ h2 => (hot.1 h2).elim hno he, fun q => by cases q⟩
                · have hi' : i = p.length := by omega
                  subst hi'
                  rw [List.take_length] at hno
                  have hVn : V.getD k [] = [] := Classical.byContradiction fun hn => hno ((hnew k).1 hn)
                  rw [if_pos hVn] at hid
                  have hsame := atL_same hVn
                  simp (disch := omega)
                  refine Rnd.mk' (k + 1) (by omega) (by (repeat (first | exact km | refine kp rfl ?_ | refine km' rfl ?_))) (by simp (disch := omega) [hid]; omega) ⟨by rw [hsame], by omega, by omega⟩
              | true =>
                have hoc := hyes rfl
                have hVn := (hnew k).2 hoc
                rw [if_neg hVn] at hid
                simp only [if_true]
                have hgk : (M5.put b9 (.cells true (ints (atL V (k + 1))) 3)).get? b9 k = some (.int .i64 (idxV V k : Nat)) := by
                  rw [get_of (kat (k + 1)), ints_get, atL_get V (k + 1) hlt, if_pos ⟨by omega, hVn⟩]; rfl
                have hnn : ¬ ((idxV V k : Nat) : Int) < 0 := by omega
                by_cases hlt2 : i < p.length
                · simp (disch := omega) [hKk, hgk, hnn]
                  refine Rnd.mk' (k + 1) (by omega) (by (repeat (first | exact km | refine kp rfl ?_ | refine km' rfl ?_))) (by simp (disch := omega) [hid]; omega) ⟨rfl, by omega, by omega⟩
                · have hi' : i = p.length := by omega
                  subst hi'
                  simp (disch := omega)
                  refine Rnd.mk' (k + 1) (by omega) (by (repeat (first | exact km | refine kp rfl ?_ | refine km' rfl ?_))) (by simp (disch := omega) [hid]; omega) ⟨rfl, by omega, by omega⟩
            · have hk3 : k = 3 := by omega
              subst hk3
              have hK1 : ¬ (K : Int) ≤ 67 := by omega
              have hid := idxV_all (V := V) (k := 3) (by omega)
              have rr9 := rr.sub (s9 3)
              have s49 := s4.trans (s9 3)
              have k9 := kat 3
              have hget9 : ∀ x, occ p x → x < 3 → (M5.put b9 (.cells true (ints (atL V 3)) 3)).get? b9 x = some (.int .i64 (idxV V x : Nat)) := by
                intro x hx hx3
                rw [get_of k9, ints_get, atL_get V 3 hx3, if_pos ⟨hx3, (hnew x).2 hx⟩]; rfl
              generalize M5.put b9 (.cells true (ints (atL V 3)) 3) = N at *
              rw [hid]
              obtain ⟨a7, c7, he7, ha7⟩ := rr9.opened
              rw [strs_length] at he7 ha7
              injection he7 with q1 q2 q3
              subst q1
              simp (disch := omega) [hK1]
              refine loop_to tab_ok [25, 30, 190, 191, 192, 193, 194, 195, 196, 197, 198, 199, 200, 201, 202, 203, 204, 205, 206, 207] (fun i : Nat => [(30, .int .i64 i), (25, str (subV (p.take i) V))]) (fun i M' => N = M' ∧ i ≤ p.length) (fun i => p.length - i) 0 (by kernel_rfl) (by simp (disch := omega) [subV_nil]) ⟨rfl, by omega⟩ ?_
              rintro i M' g ⟨rfl, hi⟩
              by_cases hlt2 : i < p.length
              · have hpx : p[i]? = some p[i] := List.getElem?_eq_getElem hlt2
                have hpr := isV_range (List.all_eq_true.1 hpv _ (List.getElem_mem hlt2))
                have hoc : occ p (vIdx p[i]) := ⟨_, List.getElem_mem hlt2, rfl⟩
                have hvi : vIdx p[i] = p[i].toNat - 65 := rfl
                have hg9 := hget9 _ hoc (by omega)
                have hfa := fill_at (V := V) (k := vIdx p[i]) (by omega) ((hnew _).2 hoc)
                have hil := (List.getElem?_eq_some_iff.1 hfa).1
                have hsn := subV_snoc hlt2 V
                have hsl := subV_take_le p (i + 1) V
                have hll := hpre.length_le
                rw [List.length_drop] at hll
                rw [hsn, List.length_append] at hsl
                have hvk : (p[i].toNat : Int) - 65 = (vIdx p[i] : Nat) := by omega
                rcases ha7 with h0 | ⟨bb, oo, rfl, ha7⟩
                · omega
                have hgt := ha7 _ hil
                rw [strs_get, hfa] at hgt
                generalize idxV V (vIdx p[i]) = I0 at *
                generalize V.getD (vIdx p[i]) [] = z at *
                generalize vIdx p[i] = X at *
                generalize p[i] = u at *
                have hX3 : X < 3 := by omega
                simp (disch := omega) [hpx, at_u8 hpx, hvk, hg9, hgt]
                refine Rnd.mk' (i + 1) (by omega) (by (repeat (first | exact km | refine kp rfl ?_ | refine km' rfl ?_))) (by simp (disch := omega) [hsn]) ⟨rfl, by omega⟩
              · have hi' : i = p.length := by omega
                subst hi'
                rw [List.take_length]
                have hfp := fac_pre hb'.1 hj hpre
                have hll := hpre.length_le
                rw [List.length_drop] at hll
                simp (disch := omega) [e5]
                refine impl_FactorAt w j (subV p V).length _ _ (by omega) (by omega) (by omega) ?_
                intro M8 s8
                rw [hfp.1, hfp.2]
                simp (disch := omega) [tup2]
                exact ret_of (h _ (s49.trans s8))
          · have hAA2 : (p == [65, 65]) = false := beq_eq_false_iff_ne.2 hAA
            obtain ⟨M5, rfl⟩ : ∃ M5, M5 = M4 := ⟨_, rfl⟩
            simp (disch := omega) [e2, e3, e4, hh, hAA2]
            have hF : (fillV V).length ≤ 3 := by rw [← e4]; exact hLl
            rw [e4] at rr
            intro b9 hb9
            have hz0 : [Value.int .i64 (-1), Value.int .i64 (-1), Value.int .i64 (-1)] = ints (atL V 0) := by rw [atL_zero]; rfl
            have kat : ∀ k, (M5.put b9 (.cells true (ints (atL V k)) 3)) b9 = some (.cells true (ints (atL V k)) 3) := fun k => put_same _ _ _
            have s9 : ∀ k, Sub M5 (M5.put b9 (.cells true (ints (atL V k)) 3)) := fun k => (Sub.refl M5).put hb9 _
            have hV3 : V.length = 3 := hg.len
            have hnew : ∀ k, V.getD k [] ≠ [] ↔ occ p k := fun k => hg.new k (v0_get k)
            have hal := atL_len V
            rw [hz0]
            simp (disch := omega) [e4]
            refine loop_to tab_ok [27, 28, 29, 156, 157, 158, 159, 160, 161, 162, 163, 164, 165, 166, 167, 168, 169, 170, 171, 172, 173, 174, 175, 176, 177, 178, 179, 180, 181, 182, 183, 184, 185] (fun k : Nat => [(28, .int .u8 ((65 + k : Nat) : Int)), (27, .int .i64 (idxV V k : Nat))]) (fun k M' => M5.put b9 (.cells true (ints (atL V k)) 3) = M' ∧ k ≤ 3 ∧ idxV V k ≤ k) (fun k => 3 - k) 0 (by kernel_rfl) (by simp (disch := omega) [idxV_zero]) ⟨rfl, by omega, by rw [idxV_zero]; exact Nat.le_refl 0⟩ ?_
            rintro k M' g ⟨rfl, hk, hik⟩
            obtain ⟨K, hK⟩ : ∃ K, K = 65 + k := ⟨_, rfl⟩
            rw [← hK]
            by_cases hlt : k < 3
            · have hK1 : (K : Int) ≤ 67 := by omega
              have hKk : (K : Int) - 65 = k := by omega
              have hid := idxV_succ (V := V) (k := k) (by omega)
              have hK2 : (K : Int) + 1 = ((65 + (k + 1) : Nat) : Int) := by omega
              simp (disch := omega) [hK1]
              refine loop_to tab_ok [27, 29, 160, 161, 162, 163, 164, 165, 166, 167, 168, 169, 170, 171, 172, 173, 174, 175, 176, 177, 178, 179, 180, 181, 182, 183, 184, 185] (fun x : Nat × Bool => [(29, .int .i64 x.1), (27, .int .i64 ((idxV V k + (if x.2 then 1 else 0) : Nat) : Int))]) (fun x M' => M5.put b9 (.cells true (ints (atL V (if x.2 then k + 1 else k))) 3) = M' ∧ x.1 ≤ p.length ∧ (x.2 = false → ¬ occ (p.take x.1) k) ∧ (x.2 = true → occ p k)) (fun x => p.length - x.1) (0, false) (by kernel_rfl) (by simp (disch := omega)) ⟨rfl, by omega, fun _ => by rw [List.take_zero]; exact occ_nil k, fun q => by cases q⟩ ?_
              rintro ⟨i, fd⟩ M' g1 ⟨rfl, hi, hno, hyes⟩
              simp only at hi hno hyes
              cases fd with
              | false =>
                have hno := hno rfl
                simp only [Bool.false_eq_true, if_false, Nat.add_zero]
                have hgk : (M5.put b9 (.cells true (ints (atL V k)) 3)).get? b9 k = some (.int .i64 (-1)) := by
                  rw [get_of (kat k), ints_get, atL_get V k hlt, if_neg (by omega)]; rfl
                by_cases hlt2 : i < p.length
                · have hpx : p[i]? = some p[i] := List.getElem?_eq_getElem hlt2
                  have hpr := isV_range (List.all_eq_true.1 hpv _ (List.getElem_mem hlt2))
                  have hot := occ_take (k := k) hlt2
                  have hvi : vIdx p[i] = p[i].toNat - 65 := rfl
                  have hocp : vIdx p[i] = k → occ p k := fun e => ⟨_, List.getElem_mem hlt2, e⟩
                  rw [hvi] at hot hocp
                  by_cases he : p[i].toNat - 65 = k
                  · have hoc := hocp he
                    have he' : (p[i].toNat : Int) = K := by omega
                    have hst := atL_set hlt ((hnew k).2 hoc)
                    have halk := hal k
                    generalize p[i] = u at *
                    simp (disch := omega) [hpx, at_u8 hpx, he', hKk, hgk, kat k, ints_set, hst]
                    refine Rnd.mk' (i + 1, true) (by simp only; omega) (by (repeat (first | exact km | refine kp rfl ?_ | refine km' rfl ?_))) (by simp (disch := omega)) ⟨rfl, by simp only; omega, (fun q => by cases q), fun _ => hoc⟩
                  · have he' : ¬ (p[i].toNat : Int) = K := by omega
                    generalize p[i] = u at *
                    simp (disch := omega) [hpx, at_u8 hpx, he', hKk, hgk]
                    refine Rnd.mk' (i + 1, false) (by simp only; omega) (by (repeat (first | exact km | refine kp rfl ?_ | refine km' rfl ?_))) (by simp (disch := omega)) ⟨rfl, by simp only; omega, fun _ h2 => (hot.1 h2).elim hno he, fun q => by cases q⟩
                · have hi' : i = p.length := by omega
                  subst hi'
                  rw [List.take_length] at hno
                  have hVn : V.getD k [] = [] := Classical.byContradiction fun hn => hno ((hnew k).1 hn)
                  rw [if_pos hVn] at hid
                  have hsame := atL_same hVn
                  simp (disch := omega)
                  refine Rnd.mk' (k + 1) (by omega) (by (repeat (first | exact km | refine kp rfl ?_ | refine km' rfl ?_))) (by simp (disch := omega) [hid]; omega) ⟨by rw [hsame], by omega, by omega⟩
              | true =>
                have hoc := hyes rfl
                have hVn := (hnew k).2 hoc
                rw [if_neg hVn] at hid
                simp only [if_true]
                have hgk : (M5.put b9 (.cells true (ints (atL V (k + 1))) 3)).get? b9 k = some (.int .i64 (idxV V k : Nat)) := by
                  rw [get_of (kat (k + 1)), ints_get, atL_get V (k + 1) hlt, if_pos ⟨by omega, hVn⟩]; rfl
                have hnn : ¬ ((idxV V k : Nat) : Int) < 0 := by omega
                by_cases hlt2 : i < p.length
                · simp (disch := omega) [hKk, hgk, hnn]
                  refine Rnd.mk' (k + 1) (by omega) (by (repeat (first | exact km | refine kp rfl ?_ | refine km' rfl ?_))) (by simp (disch := omega) [hid]; omega) ⟨rfl, by omega, by omega⟩
                · have hi' : i = p.length := by omega
                  subst hi'
                  simp (disch := omega)
                  refine Rnd.mk' (k + 1) (by omega) (by (repeat (first | exact km | refine kp rfl ?_ | refine km' rfl ?_))) (by simp (disch := omega) [hid]; omega) ⟨rfl, by omega, by omega⟩
            · have hk3 : k = 3 := by omega
              subst hk3
              have hK1 : ¬ (K : Int) ≤ 67 := by omega
              have hid := idxV_all (V := V) (k := 3) (by omega)
              have rr9 := rr.sub (s9 3)
              have s49 := s4.trans (s9 3)
              have k9 := kat 3
              have hget9 : ∀ x, occ p x → x < 3 → (M5.put b9 (.cells true (ints (atL V 3)) 3)).get? b9 x = some (.int .i64 (idxV V x : Nat)) := by
                intro x hx hx3
                rw [get_of k9, ints_get, atL_get V 3 hx3, if_pos ⟨hx3, (hnew x).2 hx⟩]; rfl
              generalize M5.put b9 (.cells true (ints (atL V 3)) 3) = N at *
              rw [hid]
              obtain ⟨a7, c7, he7, ha7⟩ := rr9.opened
              rw [strs_length] at he7 ha7
              injection he7 with q1 q2 q3
              subst q1
              simp (disch := omega) [hK1]
              refine loop_to tab_ok [25, 30, 190, 191, 192, 193, 194, 195, 196, 197, 198, 199, 200, 201, 202, 203, 204, 205, 206, 207] (fun i : Nat => [(30, .int .i64 i), (25, str (subV (p.take i) V))]) (fun i M' => N = M' ∧ i ≤ p.length) (fun i => p.length - i) 0 (by kernel_rfl) (by simp (disch := omega) [subV_nil]) ⟨rfl, by omega⟩ ?_
              rintro i M' g ⟨rfl, hi⟩
              by_cases hlt2 : i < p.length
              · have hpx : p[i]? = some p[i] := List.getElem?_eq_getElem hlt2
                have hpr := isV_range (List.all_eq_true.1 hpv _ (List.getElem_mem hlt2))
                have hoc : occ p (vIdx p[i]) := ⟨_, List.getElem_mem hlt2, rfl⟩
                have hvi : vIdx p[i] = p[i].toNat - 65 := rfl
                have hg9 := hget9 _ hoc (by omega)
                have hfa := fill_at (V := V) (k := vIdx p[i]) (by omega) ((hnew _).2 hoc)
                have hil := (List.getElem?_eq_some_iff.1 hfa).1
                have hsn := subV_snoc hlt2 V
                have hsl := subV_take_le p (i + 1) V
                have hll := hpre.length_le
                rw [List.length_drop] at hll
                rw [hsn, List.length_append] at hsl
                have hvk : (p[i].toNat : Int) - 65 = (vIdx p[i] : Nat) := by omega
                rcases ha7 with h0 | ⟨bb, oo, rfl, ha7⟩
                · omega
                have hgt := ha7 _ hil
                rw [strs_get, hfa] at hgt
                generalize idxV V (vIdx p[i]) = I0 at *
                generalize V.getD (vIdx p[i]) [] = z at *
                generalize vIdx p[i] = X at *
                generalize p[i] = u at *
                have hX3 : X < 3 := by omega
                simp (disch := omega) [hpx, at_u8 hpx, hvk, hg9, hgt]
                refine Rnd.mk' (i + 1) (by omega) (by (repeat (first | exact km | refine kp rfl ?_ | refine km' rfl ?_))) (by simp (disch := omega) [hsn]) ⟨rfl, by omega⟩
              · have hi' : i = p.length := by omega
                subst hi'
                rw [List.take_length]
                have hfp := fac_pre hb'.1 hj hpre
                have hll := hpre.length_le
                rw [List.length_drop] at hll
                simp (disch := omega) [e5]
                refine impl_FactorAt w j (subV p V).length _ _ (by omega) (by omega) (by omega) ?_
                intro M8 s8
                rw [hfp.1, hfp.2]
                simp (disch := omega) [tup2]
                exact ret_of (h _ (s49.trans s8))
end Go.Proofs.Ytbefijbmgmbphaa

/- Law: grown words are beginnings of their images; lengths are those of iterates. -/
import Derived.Test.YtbefijbmgmbphaaM14
import Derived.Test.YtbefijbmgmbphaaC50
import Derived.Test.YtbefijbmgmbphaaC35
import Derived.Test.YtbefijbmgmbphaaC27
namespace Go.Proofs.Ytbefijbmgmbphaa
open Go
set_option linter.unusedSimpArgs false
set_option linter.unusedVariables false

theorem MorGot.rd {M N : Mem} {v : Value} {ws : List (List UInt8)} (h : MorGot M N v ws) : Rd N v (strs ws) ∧ ws.length ≤ 200 ∧ Fine ws := by
  obtain ⟨D, _, h1, h2, h3, h4⟩ := h
  exact ⟨h1.sub h2, h3, fun w hw => by have := h4 w hw; omega⟩
theorem nats_ints (l : List Nat) : natsV l = ints (l.map fun n : Nat => (n : Int)) := by
  unfold natsV ints
  rw [List.map_map]; rfl
/-- A slice of words, opened: where each word lies. -/
theorem strs_open {N : Mem} {a : Option Addr} {c n : Nat} {ws : List (List UInt8)} (h : Rd N (.slice a n c) (strs ws)) (h1 : 1 ≤ ws.length) : ∃ b o, a = some ⟨b, o, none⟩ ∧ ∀ i, i < ws.length → N.get? b (o + i) = some (str (ws.getD i [])) := by
  obtain ⟨a', c', he, hat⟩ := h.opened
  rw [strs_length] at he hat
  injection he with e1 e2 e3
  rcases hat with h0 | ⟨b, o, e4, hat⟩
  · omega
  · refine ⟨b, o, by rw [e1, e4], fun i hi => ?_⟩
    rw [hat i hi, strs_get, List.getElem?_eq_getElem hi, List.getD_eq_getElem?_getD, List.getElem?_eq_getElem hi]; rfl
theorem sums_at {N : Mem} {b o : Nat} {us : List (List UInt8)} {en n : Nat} (h : ∀ i, i < n → N.get? b (o + i) = (natsV (outS us en n))[i]?) {i : Nat} (hi : i < n) : N.get? b (o + i) = some (.int .i64 ((vecA us en i).sum : Nat)) := by
  rw [h i hi, natsV_get, outS_at hi]; rfl
theorem grT_n {ws : List (List UInt8)} {a n : Int} (h : grC ws a n = 0) : ((grT ws a n).length : Int) = n := by
  have h1 := (grT_is h).1
  unfold grC at h
  split at h
  · rename_i h0
    obtain ⟨_, _, _, _, h4⟩ := codeL_zero h0
    omega
  · rename_i h0; exact absurd h h0
theorem row_at {us : List (List UInt8)} {i : Nat} (h : i < us.length) : (matM us)[i]? = some (rowM us.length (us.getD i [])) := by
  rw [List.getElem?_eq_getElem (by rw [matM_length]; exact h), matM_get h, List.getD_eq_getElem?_getD, List.getElem?_eq_getElem h]; rfl
set_option maxRecDepth 4000 in
set_option maxHeartbeats 4000000 in
theorem law_FnGrown (v : Value) (xs : List UInt8) (M : Mem) (R : Value → Mem → Prop) (hv : Rd M v (bytesV xs)) (hl : xs.length ≤ 9223372036854775807) (h : ∀ M', Sub M M' → R (.bool true) M') : Does Try.prog 10 [v] M R := by
  refine does_fn tab_ok Try.func10 rfl (by kernel_rfl) (by kernel_rfl) Try.ntmps10 Try.results10 rfl ?_
  simp (disch := omega)
  refine big_does v xs _ _ hv hl ?_
  by_cases hb : 4096 < xs.length
  · rw [decide_eq_true hb]
    simp (disch := omega)
    exact ret_of (h _ (Sub.refl _))
  rw [decide_eq_false hb]
  simp (disch := omega)
  refine drawGW_does v xs _ _ hv (by omega) ?_
  intro v1 ws a n N1 s1 g1
  obtain ⟨r1, l1, f1⟩ := g1.rd
  obtain ⟨a1, c1, rfl, _⟩ := r1.opened
  rw [strs_length] at r1 ⊢
  obtain ⟨L1, hL1⟩ : ∃ L, L = ws.length := ⟨_, rfl⟩
  rw [← hL1] at r1 ⊢
  simp (disch := omega)
  intro b3 hb3
  simp (disch := omega)
  have k3 : (N1.put b3 (.cells true [.slice a1 L1 c1] 1)) b3 = some (.cells true [.slice a1 L1 c1] 1) := put_same _ _ _
  have s1 := s1.trans ((Sub.refl N1).put hb3 (.cells true [.slice a1 L1 c1] 1))
  have r1 := r1.put hb3 (.cells true [.slice a1 L1 c1] 1)
  generalize N1.put b3 (.cells true [.slice a1 L1 c1] 1) = N2 at *
  rw [hL1] at r1 k3 ⊢
  refine impl_GrownWord _ ws a n _ _ r1 f1 (by omega) ?_
  simp (disch := omega) [tup2, sub_of k3]
  refine spec_GrownWord _ ws a n _ _ r1 f1 (by omega) ?_
  simp (disch := omega) [tup2, sub_of k3]
  refine drawLA_does v xs _ _ (hv.sub s1) (by omega) ?_
  intro v2 us e k N3 s3 g3
  obtain ⟨r2, l2, f2⟩ := g3.rd
  obtain ⟨a2, c2, rfl, _⟩ := r2.opened
  rw [strs_length] at r2 ⊢
  obtain ⟨L2, hL2⟩ : ∃ L, L = us.length := ⟨_, rfl⟩
  rw [← hL2] at r2 ⊢
  simp (disch := omega)
  intro b10 hb10
  simp (disch := omega)
  have s4 := s3.trans ((Sub.refl N3).put hb10 (.cells true [.slice a2 L2 c2] 1))
  have k10 : (N3.put b10 (.cells true [.slice a2 L2 c2] 1)) b10 = some (.cells true [.slice a2 L2 c2] 1) := put_same _ _ _
  have r2 := r2.put hb10 (.cells true [.slice a2 L2 c2] 1)
  generalize N3.put b10 (.cells true [.slice a2 L2 c2] 1) = N4 at *
  have k3 := s4 _ _ k3
  have r1 := r1.sub s4
  have s4 := s1.trans s4
  rw [hL2] at r2 k10 ⊢
  have hnl : ∀ l : List Nat, (natsV l).length = l.length := fun l => by simp [natsV]
  refine impl_LengthsAfter _ us e k _ _ r2 f2 (by omega) ?_
  intro w1 N5 o5
  have k10 := o5.sub _ _ k10
  simp (disch := omega) [tup2, sub_of k10]
  refine spec_LengthsAfter _ us e k _ _ (r2.sub o5.sub) f2 (by omega) ?_
  intro w2 N6 o6
  have k10 := o6.sub _ _ k10
  have hal := after_len us e k
  simp (disch := omega) [tup2, sub_of k10]
  have hni := nats_ints
  have r5 := o5.rd.sub o6.sub
  have r6 := o6.rd
  rw [hni] at r5 r6
  refine likeInts_does w1 w2 _ _ _ _ r5 r6 (by rw [List.length_map]; omega) (by rw [List.length_map]; omega) ?_
  rw [beq_self_eq_true]
  simp (disch := omega) [sub_of k10]
  have q2 := (r2.sub o5.sub).sub o6.sub
  have hml : (if isMor us then matM us else []).length ≤ 200 := by
    split
    · rw [matM_length]; omega
    · simp
  have hmr : ∀ r ∈ (if isMor us then matM us else []), r.length ≤ 1099511627776 := by
    intro r hr
    split at hr
    · obtain ⟨w, _, rfl⟩ := List.mem_map.1 hr
      unfold rowM
      rw [List.length_take, counts_length]; omega
    · cases hr
  refine impl_MatrixOf _ us _ _ q2 f2 (by omega) ?_
  intro w3 rs3 N7' N7 ro7 o7
  have s7 := ro7.sub.trans o7.sub
  have k10 := s7 _ _ k10
  simp (disch := omega) [tup2, sub_of k10]
  refine spec_MatrixOf _ us _ _ (q2.sub s7) f2 (by omega) ?_
  intro w4 rs4 N8' N8 ro8 o8
  have s8 := ro8.sub.trans o8.sub
  have k10 := s8 _ _ k10
  simp (disch := omega) [tup2, sub_of k10]
  have z7 := (rdSS_of ro7 o7).sub s8
  refine rows9_does w3 w4 _ _ _ _ z7 (rdSS_of ro8 o8) (by omega) (by omega) hmr hmr ?_
  rw [beq_self_eq_true]
  simp (disch := omega) [sub_of k10]
  have q2 := (q2.sub s7).sub s8
  refine impl_IsPrimitive _ us _ _ q2 f2 (by omega) ?_
  simp (disch := omega) [tup2, sub_of k10]
  refine spec_IsPrimitive _ us _ _ q2 f2 (by omega) ?_
  simp (disch := omega) [tup2, sub_of k10]
  refine impl_IsUniform _ us _ _ q2 f2 (by omega) ?_
  simp (disch := omega) [tup2, sub_of k10]
  refine spec_IsUniform _ us _ _ q2 f2 (by omega) ?_
  simp (disch := omega) [tup2, sub_of k10]
  have s8' := ((o5.sub.trans o6.sub).trans s7).trans s8
  have k3 := s8' _ _ k3
  have r1 := r1.sub s8'
  have sF := s4.trans s8'
  have r5 := (o5.rd.sub o6.sub).sub (s7.trans s8)
  have hnl : ∀ l : List Nat, (natsV l).length = l.length := fun l => by simp [natsV]
  by_cases hz : afterC us e k = 0
  · obtain ⟨hm, ha1, ha2, hk1, hk2, hR, hok⟩ := after_is hz
    rw [hz]
    rw [hR] at r5
    obtain ⟨en, rfl⟩ : ∃ en : Nat, e = en := ⟨e.toNat, by omega⟩
    obtain ⟨kn, rfl⟩ : ∃ kn : Nat, k = kn := ⟨k.toNat, by omega⟩
    simp only [Int.toNat_natCast] at r5 hok
    have ha3 : en < us.length := by omega
    obtain ⟨a5, c5, rfl, ha5⟩ := r5.opened
    rw [hnl, outS_length] at ha5 ⊢
    rcases ha5 with h0 | ⟨b5, p5, rfl, ha5⟩
    · omega
    have hat5 := fun i (hi : i < kn + 1) => sums_at ha5 hi
    obtain ⟨bu, pu, rfl, hatu⟩ := strs_open q2 (by omega)
    have hg0 := hat5 0 (by omega)
    rw [vecA_sum0 ha3 (mor_len hm).2] at hg0
    rw [Nat.add_zero] at hg0
    obtain ⟨K, hK⟩ : ∃ K, K = kn + 1 := ⟨_, rfl⟩
    have hkw : (kn : Int) + 1 = (K : Int) := by omega
    rw [← hK]
    simp (disch := omega)
    refine draw_to tab_ok (by kernel_rfl) (by kernel_rfl) (by rfl) ?_
    by_cases hk0 : kn = 0
    · subst hk0
      simp (disch := omega) [hg0, hkw]
      cases hu : uniB us
      · simp (disch := omega)
        by_cases hm3 : isMor us = true
        · have hmc : morC us = 0 := if_pos hm3
          rw [if_pos hm3] at z7
          rw [hmc]
          obtain ⟨rs, hrd, hrl, hrow⟩ := z7
          obtain ⟨a7, c7, rfl, ha7⟩ := hrd.opened
          rw [hrl, matM_length] at ha7 ⊢
          rcases ha7 with h0 | ⟨b7, p7, rfl, ha7⟩
          · have := (mor_len hm3).1
            omega
          have q2' := q2
          obtain ⟨bv, pv, hav, hatv⟩ := strs_open q2' (mor_len hm3).1
          first
          | subst hav
          | injection hav with hav
            injection hav with e1 e2
            subst e1
            subst e2
          simp (disch := omega)
          refine loop_to tab_ok [2, 30, 202, 203, 204, 205, 206, 207, 208, 209, 210, 211, 212, 213, 214, 215, 216, 217, 218, 219] (fun i : Nat => [(30, .int .i64 i)]) (fun i M' => N8 = M' ∧ i ≤ us.length) (fun i => us.length - i) 0 (by kernel_rfl) (by simp (disch := omega)) ⟨rfl, by omega⟩ ?_
          rintro i M' g ⟨rfl, hi⟩
          by_cases hlt : i < us.length
          · obtain ⟨x, hx1, hx2⟩ := hrow i (rowM us.length (us.getD i [])) (row_at hlt)
            have hg7 := ha7 i hlt
            rw [hx1] at hg7
            rw [rowN_rowM] at hx2
            have hgv := hatv i hlt
            have hgl : (us.getD i []).length ≤ 1099511627776 := f2 _ (getD_mem hlt)
            have hrs := rowN_sum (mor_len hm3).2 (row_lt hm3 hlt)
            have hrn := rowN_length (mor_len hm3).2 (us.getD i [])
            generalize us.getD i [] = w at *
            simp (disch := omega)
            refine draw_to tab_ok (by kernel_rfl) (by kernel_rfl) (by rfl) ?_
            simp (disch := omega) [hg7, get_of k10, sub_of k10, hgv]
            refine vQCall_at (a := []) (c := []) (sum_does x _ _ _ hx2 (by omega) (by omega) ⟨rfl, rfl⟩) ?_
            rw [hrs]
            simp (disch := omega) [hg7, get_of k10, sub_of k10, hgv]
            refine Rnd.mk' (i + 1) (by omega) (by (repeat (first | exact km | refine kp rfl ?_ | refine km' rfl ?_))) (by simp (disch := omega)) ⟨rfl, by omega⟩
          · have hi' : i = us.length := by omega
            subst hi'
            simp (disch := omega)
            by_cases hg : grC ws a n = 0
            · obtain ⟨_, hT⟩ := grT_is hg
              have hTn := grT_n hg
              have hTl := grT_len ws a n
              rw [hg]
              generalize grT ws a n = T at *
              simp (disch := omega) [sub_of k3]
              refine impl_ImageOf _ ws T _ _ r1 f1 (by omega) (by omega) ?_
              by_cases hi : iterC ws T 1 = 0
              · rw [hi, iter_one hi]
                have hIl : (imgOf ws T).length ≤ 60 := img60 hi
                generalize imgOf ws T = I at *
                simp (disch := omega) [tup2, hTn]
                refine draw_to tab_ok (by kernel_rfl) (by kernel_rfl) (by rfl) ?_
                simp (disch := omega)
                have e := hT (if n < (I.length : Int) then n else (I.length : Int)).toNat (by split <;> omega) (by split <;> omega)
                rw [e, beq_self_eq_true]
                exact ret_of (h _ sF)
              · simp (disch := omega) [tup2, hi, hTn]
                exact ret_of (h _ sF)
            · rw [grT_no hg]
              simp (disch := omega) [hg]
              exact ret_of (h _ sF)
        · have hmc : morC us = 1 := if_neg hm3
          rw [hmc]
          simp (disch := omega)
          by_cases hg : grC ws a n = 0
          · obtain ⟨_, hT⟩ := grT_is hg
            have hTn := grT_n hg
            have hTl := grT_len ws a n
            rw [hg]
            generalize grT ws a n = T at *
            simp (disch := omega) [sub_of k3]
            refine impl_ImageOf _ ws T _ _ r1 f1 (by omega) (by omega) ?_
            by_cases hi : iterC ws T 1 = 0
            · rw [hi, iter_one hi]
              have hIl : (imgOf ws T).length ≤ 60 := img60 hi
              generalize imgOf ws T = I at *
              simp (disch := omega) [tup2, hTn]
              refine draw_to tab_ok (by kernel_rfl) (by kernel_rfl) (by rfl) ?_
              simp (disch := omega)
              have e := hT (if n < (I.length : Int) then n else (I.length : Int)).toNat (by split <;> omega) (by split <;> omega)
              rw [e, beq_self_eq_true]
              exact ret_of (h _ sF)
            · simp (disch := omega) [tup2, hi, hTn]
              exact ret_of (h _ sF)
          · rw [grT_no hg]
            simp (disch := omega) [hg]
            exact ret_of (h _ sF)
      · simp (disch := omega)
        refine loop_to tab_ok [2, 29, 178, 179, 180, 181, 182, 183, 184, 185, 186, 187, 188, 189, 190, 191, 192, 193, 194, 195, 196, 197, 198, 199] (fun i : Nat => [(29, .int .i64 i)]) (fun i M' => N8 = M' ∧ 1 ≤ i ∧ i ≤ K) (fun i => K - i) 1 (by kernel_rfl) (by simp (disch := omega)) ⟨rfl, by omega, by omega⟩ ?_
        rintro i M' g ⟨rfl, hi1, hi⟩
        by_cases hlt : i < K
        · obtain ⟨j, rfl⟩ : ∃ j, i = j + 1 := ⟨i - 1, by omega⟩
          have x1 := hat5 (j + 1) (by omega)
          have x0 := hat5 j (by omega)
          have hmul := sums_uni hm (uni_len hu) en j
          have hle := okS_at hok (show j + 1 < _ by omega)
          have h00 := hatu 0 (by omega)
          have hgl0 : (us.getD 0 []).length ≤ 1099511627776 := f2 _ (getD_mem (by omega))
          have hj : ((j + 1 : Nat) : Int) - 1 = j := by omega
          rw [Nat.add_zero] at h00
          generalize us.getD 0 [] = w at *
          generalize (vecA us en (j + 1)).sum = A1 at *
          generalize (vecA us en j).sum = A0 at *
          have hmul2 : (A0 : Int) * (w.length : Int) = A1 := by rw [hmul]; push_cast; rfl
          obtain ⟨i1, hi1e⟩ : ∃ i1, i1 = j + 1 := ⟨_, rfl⟩
          rw [← hi1e] at x1 hi1 hi hlt ⊢
          have hj1 : (i1 : Int) - 1 = j := by omega
          simp (disch := omega)
          refine draw_to tab_ok (by kernel_rfl) (by kernel_rfl) (by rfl) ?_
          simp (disch := omega) [x1, hj1, x0, get_of k10, sub_of k10, h00, hmul2]
          refine Rnd.mk' (i1 + 1) (by omega) (by (repeat (first | exact km | refine kp rfl ?_ | refine km' rfl ?_))) (by simp (disch := omega)) ⟨rfl, by omega, by omega⟩
        · have hi' : i = K := by omega
          subst hi'
          simp (disch := omega)
          by_cases hm3 : isMor us = true
          · have hmc : morC us = 0 := if_pos hm3
            rw [if_pos hm3] at z7
            rw [hmc]
            obtain ⟨rs, hrd, hrl, hrow⟩ := z7
            obtain ⟨a7, c7, rfl, ha7⟩ := hrd.opened
            rw [hrl, matM_length] at ha7 ⊢
            rcases ha7 with h0 | ⟨b7, p7, rfl, ha7⟩
            · have := (mor_len hm3).1
              omega
            have q2' := q2
            obtain ⟨bv, pv, hav, hatv⟩ := strs_open q2' (mor_len hm3).1
            first
            | subst hav
            | injection hav with hav
              injection hav with e1 e2
              subst e1
              subst e2
            simp (disch := omega)
            refine loop_to tab_ok [2, 30, 202, 203, 204, 205, 206, 207, 208, 209, 210, 211, 212, 213, 214, 215, 216, 217, 218, 219] (fun i : Nat => [(30, .int .i64 i)]) (fun i M' => N8 = M' ∧ i ≤ us.length) (fun i => us.length - i) 0 (by kernel_rfl) (by simp (disch := omega)) ⟨rfl, by omega⟩ ?_
            rintro i M' g ⟨rfl, hi⟩
            by_cases hlt : i < us.length
            · obtain ⟨x, hx1, hx2⟩ := hrow i (rowM us.length (us.getD i [])) (row_at hlt)
              have hg7 := ha7 i hlt
              rw [hx1] at hg7
              rw [rowN_rowM] at hx2
              have hgv := hatv i hlt
              have hgl : (us.getD i []).length ≤ 1099511627776 := f2 _ (getD_mem hlt)
              have hrs := rowN_sum (mor_len hm3).2 (row_lt hm3 hlt)
              have hrn := rowN_length (mor_len hm3).2 (us.getD i [])
              generalize us.getD i [] = w at *
              simp (disch := omega)
              refine draw_to tab_ok (by kernel_rfl) (by kernel_rfl) (by rfl) ?_
              simp (disch := omega) [hg7, get_of k10, sub_of k10, hgv]
              refine vQCall_at (a := []) (c := []) (sum_does x _ _ _ hx2 (by omega) (by omega) ⟨rfl, rfl⟩) ?_
              rw [hrs]
              simp (disch := omega) [hg7, get_of k10, sub_of k10, hgv]
              refine Rnd.mk' (i + 1) (by omega) (by (repeat (first | exact km | refine kp rfl ?_ | refine km' rfl ?_))) (by simp (disch := omega)) ⟨rfl, by omega⟩
            · have hi' : i = us.length := by omega
              subst hi'
              simp (disch := omega)
              by_cases hg : grC ws a n = 0
              · obtain ⟨_, hT⟩ := grT_is hg
                have hTn := grT_n hg
                have hTl := grT_len ws a n
                rw [hg]
                generalize grT ws a n = T at *
                simp (disch := omega) [sub_of k3]
                refine impl_ImageOf _ ws T _ _ r1 f1 (by omega) (by omega) ?_
                by_cases hi : iterC ws T 1 = 0
                · rw [hi, iter_one hi]
                  have hIl : (imgOf ws T).length ≤ 60 := img60 hi
                  generalize imgOf ws T = I at *
                  simp (disch := omega) [tup2, hTn]
                  refine draw_to tab_ok (by kernel_rfl) (by kernel_rfl) (by rfl) ?_
                  simp (disch := omega)
                  have e := hT (if n < (I.length : Int) then n else (I.length : Int)).toNat (by split <;> omega) (by split <;> omega)
                  rw [e, beq_self_eq_true]
                  exact ret_of (h _ sF)
                · simp (disch := omega) [tup2, hi, hTn]
                  exact ret_of (h _ sF)
              · rw [grT_no hg]
                simp (disch := omega) [hg]
                exact ret_of (h _ sF)
          · have hmc : morC us = 1 := if_neg hm3
            rw [hmc]
            simp (disch := omega)
            by_cases hg : grC ws a n = 0
            · obtain ⟨_, hT⟩ := grT_is hg
              have hTn := grT_n hg
              have hTl := grT_len ws a n
              rw [hg]
              generalize grT ws a n = T at *
              simp (disch := omega) [sub_of k3]
              refine impl_ImageOf _ ws T _ _ r1 f1 (by omega) (by omega) ?_
              by_cases hi : iterC ws T 1 = 0
              · rw [hi, iter_one hi]
                have hIl : (imgOf ws T).length ≤ 60 := img60 hi
                generalize imgOf ws T = I at *
                simp (disch := omega) [tup2, hTn]
                refine draw_to tab_ok (by kernel_rfl) (by kernel_rfl) (by rfl) ?_
                simp (disch := omega)
                have e := hT (if n < (I.length : Int) then n else (I.length : Int)).toNat (by split <;> omega) (by split <;> omega)
                rw [e, beq_self_eq_true]
                exact ret_of (h _ sF)
              · simp (disch := omega) [tup2, hi, hTn]
                exact ret_of (h _ sF)
            · rw [grT_no hg]
              simp (disch := omega) [hg]
              exact ret_of (h _ sF)
    · have hkp : (0 : Int) < kn := by omega
      have hg1 := hat5 1 (by omega)
      rw [sums_one hm ha3] at hg1
      have hge := hatu en ha3
      have hgl : (us.getD en []).length ≤ 1099511627776 := f2 _ (getD_mem ha3)
      simp (disch := omega) [hg0, hkw, hkp, hg1, get_of k10, sub_of k10, hge]
      cases hu : uniB us
      · simp (disch := omega)
        by_cases hm3 : isMor us = true
        · have hmc : morC us = 0 := if_pos hm3
          rw [if_pos hm3] at z7
          rw [hmc]
          obtain ⟨rs, hrd, hrl, hrow⟩ := z7
          obtain ⟨a7, c7, rfl, ha7⟩ := hrd.opened
          rw [hrl, matM_length] at ha7 ⊢
          rcases ha7 with h0 | ⟨b7, p7, rfl, ha7⟩
          · have := (mor_len hm3).1
            omega
          have q2' := q2
          obtain ⟨bv, pv, hav, hatv⟩ := strs_open q2' (mor_len hm3).1
          first
          | subst hav
          | injection hav with hav
            injection hav with e1 e2
            subst e1
            subst e2
          simp (disch := omega)
          refine loop_to tab_ok [2, 30, 202, 203, 204, 205, 206, 207, 208, 209, 210, 211, 212, 213, 214, 215, 216, 217, 218, 219] (fun i : Nat => [(30, .int .i64 i)]) (fun i M' => N8 = M' ∧ i ≤ us.length) (fun i => us.length - i) 0 (by kernel_rfl) (by simp (disch := omega)) ⟨rfl, by omega⟩ ?_
          rintro i M' g ⟨rfl, hi⟩
          by_cases hlt : i < us.length
          · obtain ⟨x, hx1, hx2⟩ := hrow i (rowM us.length (us.getD i [])) (row_at hlt)
            have hg7 := ha7 i hlt
            rw [hx1] at hg7
            rw [rowN_rowM] at hx2
            have hgv := hatv i hlt
            have hgl : (us.getD i []).length ≤ 1099511627776 := f2 _ (getD_mem hlt)
            have hrs := rowN_sum (mor_len hm3).2 (row_lt hm3 hlt)
            have hrn := rowN_length (mor_len hm3).2 (us.getD i [])
            generalize us.getD i [] = w at *
            simp (disch := omega)
            refine draw_to tab_ok (by kernel_rfl) (by kernel_rfl) (by rfl) ?_
            simp (disch := omega) [hg7, get_of k10, sub_of k10, hgv]
            refine vQCall_at (a := []) (c := []) (sum_does x _ _ _ hx2 (by omega) (by omega) ⟨rfl, rfl⟩) ?_
            rw [hrs]
            simp (disch := omega) [hg7, get_of k10, sub_of k10, hgv]
            refine Rnd.mk' (i + 1) (by omega) (by (repeat (first | exact km | refine kp rfl ?_ | refine km' rfl ?_))) (by simp (disch := omega)) ⟨rfl, by omega⟩
          · have hi' : i = us.length := by omega
            subst hi'
            simp (disch := omega)
            by_cases hg : grC ws a n = 0
            · obtain ⟨_, hT⟩ := grT_is hg
              have hTn := grT_n hg
              have hTl := grT_len ws a n
              rw [hg]
              generalize grT ws a n = T at *
              simp (disch := omega) [sub_of k3]
              refine impl_ImageOf _ ws T _ _ r1 f1 (by omega) (by omega) ?_
              by_cases hi : iterC ws T 1 = 0
              · rw [hi, iter_one hi]
                have hIl : (imgOf ws T).length ≤ 60 := img60 hi
                generalize imgOf ws T = I at *
                simp (disch := omega) [tup2, hTn]
                refine draw_to tab_ok (by kernel_rfl) (by kernel_rfl) (by rfl) ?_
                simp (disch := omega)
                have e := hT (if n < (I.length : Int) then n else (I.length : Int)).toNat (by split <;> omega) (by split <;> omega)
                rw [e, beq_self_eq_true]
                exact ret_of (h _ sF)
              · simp (disch := omega) [tup2, hi, hTn]
                exact ret_of (h _ sF)
            · rw [grT_no hg]
              simp (disch := omega) [hg]
              exact ret_of (h _ sF)
        · have hmc : morC us = 1 := if_neg hm3
          rw [hmc]
          simp (disch := omega)
          by_cases hg : grC ws a n = 0
          · obtain ⟨_, hT⟩ := grT_is hg
            have hTn := grT_n hg
            have hTl := grT_len ws a n
            rw [hg]
            generalize grT ws a n = T at *
            simp (disch := omega) [sub_of k3]
            refine impl_ImageOf _ ws T _ _ r1 f1 (by omega) (by omega) ?_
            by_cases hi : iterC ws T 1 = 0
            · rw [hi, iter_one hi]
              have hIl : (imgOf ws T).length ≤ 60 := img60 hi
              generalize imgOf ws T = I at *
              simp (disch := omega) [tup2, hTn]
              refine draw_to tab_ok (by kernel_rfl) (by kernel_rfl) (by rfl) ?_
              simp (disch := omega)
              have e := hT (if n < (I.length : Int) then n else (I.length : Int)).toNat (by split <;> omega) (by split <;> omega)
              rw [e, beq_self_eq_true]
              exact ret_of (h _ sF)
            · simp (disch := omega) [tup2, hi, hTn]
              exact ret_of (h _ sF)
          · rw [grT_no hg]
            simp (disch := omega) [hg]
            exact ret_of (h _ sF)
      · simp (disch := omega)
        refine loop_to tab_ok [2, 29, 178, 179, 180, 181, 182, 183, 184, 185, 186, 187, 188, 189, 190, 191, 192, 193, 194, 195, 196, 197, 198, 199] (fun i : Nat => [(29, .int .i64 i)]) (fun i M' => N8 = M' ∧ 1 ≤ i ∧ i ≤ K) (fun i => K - i) 1 (by kernel_rfl) (by simp (disch := omega)) ⟨rfl, by omega, by omega⟩ ?_
        rintro i M' g ⟨rfl, hi1, hi⟩
        by_cases hlt : i < K
        · obtain ⟨j, rfl⟩ : ∃ j, i = j + 1 := ⟨i - 1, by omega⟩
          have x1 := hat5 (j + 1) (by omega)
          have x0 := hat5 j (by omega)
          have hmul := sums_uni hm (uni_len hu) en j
          have hle := okS_at hok (show j + 1 < _ by omega)
          have h00 := hatu 0 (by omega)
          have hgl0 : (us.getD 0 []).length ≤ 1099511627776 := f2 _ (getD_mem (by omega))
          have hj : ((j + 1 : Nat) : Int) - 1 = j := by omega
          rw [Nat.add_zero] at h00
          generalize us.getD 0 [] = w at *
          generalize (vecA us en (j + 1)).sum = A1 at *
          generalize (vecA us en j).sum = A0 at *
          have hmul2 : (A0 : Int) * (w.length : Int) = A1 := by rw [hmul]; push_cast; rfl
          obtain ⟨i1, hi1e⟩ : ∃ i1, i1 = j + 1 := ⟨_, rfl⟩
          rw [← hi1e] at x1 hi1 hi hlt ⊢
          have hj1 : (i1 : Int) - 1 = j := by omega
          simp (disch := omega)
          refine draw_to tab_ok (by kernel_rfl) (by kernel_rfl) (by rfl) ?_
          simp (disch := omega) [x1, hj1, x0, get_of k10, sub_of k10, h00, hmul2]
          refine Rnd.mk' (i1 + 1) (by omega) (by (repeat (first | exact km | refine kp rfl ?_ | refine km' rfl ?_))) (by simp (disch := omega)) ⟨rfl, by omega, by omega⟩
        · have hi' : i = K := by omega
          subst hi'
          simp (disch := omega)
          by_cases hm3 : isMor us = true
          · have hmc : morC us = 0 := if_pos hm3
            rw [if_pos hm3] at z7
            rw [hmc]
            obtain ⟨rs, hrd, hrl, hrow⟩ := z7
            obtain ⟨a7, c7, rfl, ha7⟩ := hrd.opened
            rw [hrl, matM_length] at ha7 ⊢
            rcases ha7 with h0 | ⟨b7, p7, rfl, ha7⟩
            · have := (mor_len hm3).1
              omega
            have q2' := q2
            obtain ⟨bv, pv, hav, hatv⟩ := strs_open q2' (mor_len hm3).1
            first
            | subst hav
            | injection hav with hav
              injection hav with e1 e2
              subst e1
              subst e2
            simp (disch := omega)
            refine loop_to tab_ok [2, 30, 202, 203, 204, 205, 206, 207, 208, 209, 210, 211, 212, 213, 214, 215, 216, 217, 218, 219] (fun i : Nat => [(30, .int .i64 i)]) (fun i M' => N8 = M' ∧ i ≤ us.length) (fun i => us.length - i) 0 (by kernel_rfl) (by simp (disch := omega)) ⟨rfl, by omega⟩ ?_
            rintro i M' g ⟨rfl, hi⟩
            by_cases hlt : i < us.length
            · obtain ⟨x, hx1, hx2⟩ := hrow i (rowM us.length (us.getD i [])) (row_at hlt)
              have hg7 := ha7 i hlt
              rw [hx1] at hg7
              rw [rowN_rowM] at hx2
              have hgv := hatv i hlt
              have hgl : (us.getD i []).length ≤ 1099511627776 := f2 _ (getD_mem hlt)
              have hrs := rowN_sum (mor_len hm3).2 (row_lt hm3 hlt)
              have hrn := rowN_length (mor_len hm3).2 (us.getD i [])
              generalize us.getD i [] = w at *
              simp (disch := omega)
              refine draw_to tab_ok (by kernel_rfl) (by kernel_rfl) (by rfl) ?_
              simp (disch := omega) [hg7, get_of k10, sub_of k10, hgv]
              refine vQCall_at (a := []) (c := []) (sum_does x _ _ _ hx2 (by omega) (by omega) ⟨rfl, rfl⟩) ?_
              rw [hrs]
              simp (disch := omega) [hg7, get_of k10, sub_of k10, hgv]
              refine Rnd.mk' (i + 1) (by omega) (by (repeat (first | exact km | refine kp rfl ?_ | refine km' rfl ?_))) (by simp (disch := omega)) ⟨rfl, by omega⟩
            · have hi' : i = us.length := by omega
              subst hi'
              simp (disch := omega)
              by_cases hg : grC ws a n = 0
              · obtain ⟨_, hT⟩ := grT_is hg
                have hTn := grT_n hg
                have hTl := grT_len ws a n
                rw [hg]
                generalize grT ws a n = T at *
                simp (disch := omega) [sub_of k3]
                refine impl_ImageOf _ ws T _ _ r1 f1 (by omega) (by omega) ?_
                by_cases hi : iterC ws T 1 = 0
                · rw [hi, iter_one hi]
                  have hIl : (imgOf ws T).length ≤ 60 := img60 hi
                  generalize imgOf ws T = I at *
                  simp (disch := omega) [tup2, hTn]
                  refine draw_to tab_ok (by kernel_rfl) (by kernel_rfl) (by rfl) ?_
                  simp (disch := omega)
                  have e := hT (if n < (I.length : Int) then n else (I.length : Int)).toNat (by split <;> omega) (by split <;> omega)
                  rw [e, beq_self_eq_true]
                  exact ret_of (h _ sF)
                · simp (disch := omega) [tup2, hi, hTn]
                  exact ret_of (h _ sF)
              · rw [grT_no hg]
                simp (disch := omega) [hg]
                exact ret_of (h _ sF)
          · have hmc : morC us = 1 := if_neg hm3
            rw [hmc]
            simp (disch := omega)
            by_cases hg : grC ws a n = 0
            · obtain ⟨_, hT⟩ := grT_is hg
              have hTn := grT_n hg
              have hTl := grT_len ws a n
              rw [hg]
              generalize grT ws a n = T at *
              simp (disch := omega) [sub_of k3]
              refine impl_ImageOf _ ws T _ _ r1 f1 (by omega) (by omega) ?_
              by_cases hi : iterC ws T 1 = 0
              · rw [hi, iter_one hi]
                have hIl : (imgOf ws T).length ≤ 60 := img60 hi
                generalize imgOf ws T = I at *
                simp (disch := omega) [tup2, hTn]
                refine draw_to tab_ok (by kernel_rfl) (by kernel_rfl) (by rfl) ?_
                simp (disch := omega)
                have e := hT (if n < (I.length : Int) then n else (I.length : Int)).toNat (by split <;> omega) (by split <;> omega)
                rw [e, beq_self_eq_true]
                exact ret_of (h _ sF)
              · simp (disch := omega) [tup2, hi, hTn]
                exact ret_of (h _ sF)
            · rw [grT_no hg]
              simp (disch := omega) [hg]
              exact ret_of (h _ sF)
  · simp (disch := omega) [hz]
    by_cases hm3 : isMor us = true
    · have hmc : morC us = 0 := if_pos hm3
      rw [if_pos hm3] at z7
      rw [hmc]
      obtain ⟨rs, hrd, hrl, hrow⟩ := z7
      obtain ⟨a7, c7, rfl, ha7⟩ := hrd.opened
      rw [hrl, matM_length] at ha7 ⊢
      rcases ha7 with h0 | ⟨b7, p7, rfl, ha7⟩
      · have := (mor_len hm3).1
        omega
      have q2' := q2
      obtain ⟨bv, pv, hav, hatv⟩ := strs_open q2' (mor_len hm3).1
      first
      | subst hav
      | injection hav with hav
        injection hav with e1 e2
        subst e1
        subst e2
      simp (disch := omega)
      refine loop_to tab_ok [2, 30, 202, 203, 204, 205, 206, 207, 208, 209, 210, 211, 212, 213, 214, 215, 216, 217, 218, 219] (fun i : Nat => [(30, .int .i64 i)]) (fun i M' => N8 = M' ∧ i ≤ us.length) (fun i => us.length - i) 0 (by kernel_rfl) (by simp (disch := omega)) ⟨rfl, by omega⟩ ?_
      rintro i M' g ⟨rfl, hi⟩
      by_cases hlt : i < us.length
      · obtain ⟨x, hx1, hx2⟩ := hrow i (rowM us.length (us.getD i [])) (row_at hlt)
        have hg7 := ha7 i hlt
        rw [hx1] at hg7
        rw [rowN_rowM] at hx2
        have hgv := hatv i hlt
        have hgl : (us.getD i []).length ≤ 1099511627776 := f2 _ (getD_mem hlt)
        have hrs := rowN_sum (mor_len hm3).2 (row_lt hm3 hlt)
        have hrn := rowN_length (mor_len hm3).2 (us.getD i [])
        generalize us.getD i [] = w at *
        simp (disch := omega)
        refine draw_to tab_ok (by kernel_rfl) (by kernel_rfl) (by rfl) ?_
        simp (disch := omega) [hg7, get_of k10, sub_of k10, hgv]
        refine vQCall_at (a := []) (c := []) (sum_does x _ _ _ hx2 (by omega) (by omega) ⟨rfl, rfl⟩) ?_
        rw [hrs]
        simp (disch := omega) [hg7, get_of k10, sub_of k10, hgv]
        refine Rnd.mk' (i + 1) (by omega) (by (repeat (first | exact km | refine kp rfl ?_ | refine km' rfl ?_))) (by simp (disch := omega)) ⟨rfl, by omega⟩
      · have hi' : i = us.length := by omega
        subst hi'
        simp (disch := omega)
        by_cases hg : grC ws a n = 0
        · obtain ⟨_, hT⟩ := grT_is hg
          have hTn := grT_n hg
          have hTl := grT_len ws a n
          rw [hg]
          generalize grT ws a n = T at *
          simp (disch := omega) [sub_of k3]
          refine impl_ImageOf _ ws T _ _ r1 f1 (by omega) (by omega) ?_
          by_cases hi : iterC ws T 1 = 0
          · rw [hi, iter_one hi]
            have hIl : (imgOf ws T).length ≤ 60 := img60 hi
            generalize imgOf ws T = I at *
            simp (disch := omega) [tup2, hTn]
            refine draw_to tab_ok (by kernel_rfl) (by kernel_rfl) (by rfl) ?_
            simp (disch := omega)
            have e := hT (if n < (I.length : Int) then n else (I.length : Int)).toNat (by split <;> omega) (by split <;> omega)
            rw [e, beq_self_eq_true]
            exact ret_of (h _ sF)
          · simp (disch := omega) [tup2, hi, hTn]
            exact ret_of (h _ sF)
        · rw [grT_no hg]
          simp (disch := omega) [hg]
          exact ret_of (h _ sF)
    · have hmc : morC us = 1 := if_neg hm3
      rw [hmc]
      simp (disch := omega)
      by_cases hg : grC ws a n = 0
      · obtain ⟨_, hT⟩ := grT_is hg
        have hTn := grT_n hg
        have hTl := grT_len ws a n
        rw [hg]
        generalize grT ws a n = T at *
        simp (disch := omega) [sub_of k3]
        refine impl_ImageOf _ ws T _ _ r1 f1 (by omega) (by omega) ?_
        by_cases hi : iterC ws T 1 = 0
        · rw [hi, iter_one hi]
          have hIl : (imgOf ws T).length ≤ 60 := img60 hi
          generalize imgOf ws T = I at *
          simp (disch := omega) [tup2, hTn]
          refine draw_to tab_ok (by kernel_rfl) (by kernel_rfl) (by rfl) ?_
          simp (disch := omega)
          have e := hT (if n < (I.length : Int) then n else (I.length : Int)).toNat (by split <;> omega) (by split <;> omega)
          rw [e, beq_self_eq_true]
          exact ret_of (h _ sF)
        · simp (disch := omega) [tup2, hi, hTn]
          exact ret_of (h _ sF)
      · rw [grT_no hg]
        simp (disch := omega) [hg]
        exact ret_of (h _ sF)
end Go.Proofs.Ytbefijbmgmbphaa

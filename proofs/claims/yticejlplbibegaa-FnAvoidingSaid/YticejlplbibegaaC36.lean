/- Contracts: impl.match with a receiver that keeps a state in blocks of its own. -/
import Derived.Test.YticejlplbibegaaC21
import Derived.Test.YticejlplbibegaaEB
namespace Go.Proofs.Yticejlplbibegaa
open Go
set_option linter.unusedSimpArgs false
set_option linter.unusedVariables false

/-- Blocks that are not the receiver's stay told as they were. -/
def KeepO (O : Nat → Prop) (M M' : Mem) : Prop := ∀ b B, ¬ O b → M b = some B → M' b = some B
theorem KeepO.refl (O : Nat → Prop) (M : Mem) : KeepO O M M := fun _ _ _ h => h
theorem KeepO.trans {O : Nat → Prop} {A B C : Mem} (h : KeepO O A B) (k : KeepO O B C) : KeepO O A C := fun b x ho hx => k b x ho (h b x ho hx)
theorem Sub.keepO {O : Nat → Prop} {A B : Mem} (h : Sub A B) : KeepO O A B := fun b x _ hx => h b x hx
set_option maxHeartbeats 1000000 in
theorem matchS_does {S : Type} (w : List UInt8) (hl : w.length ≤ 60) (step : S → Vals × Nat → S × Bool) (fv : Value) (hfl : flatV fv = true) (O : Nat → Prop) (J : S → Mem → Prop) (hO : ∀ s M b, J s M → O b → M b ≠ none) (hst : ∀ s, Stab (J s))
    (ht : ∀ s V t M R, Small3 V → J s M → (∀ M', J (step s (V, t)).1 M' → KeepO O M M' → R (.bool (step s (V, t)).2) M') → vCallV Try.prog fv [.agg (strs V).toArray, .int .i64 (t : Nat)] R M) :
    ∀ (p : List UInt8) (V : Vals) (t : Nat) (s : S) (M : Mem) (R : Value → Mem → Prop), p.all isV = true → p.length ≤ 8 → Small3 V → t ≤ w.length → J s M → (∀ M', J (runS step s (sols w p V t)).1 M' → KeepO O M M' → R (.bool (runS step s (sols w p V t)).2) M') → Does Try.prog 69 [str w, str p, .agg (strs V).toArray, .int .i64 t, fv] M R
  | [], V, t, s, M, R, hp, hp8, hV, htl, hG, h => by
    unfold sols at h
    rw [runS_one] at h
    refine does_fn tab_ok Try.func69 rfl (by kernel_rfl) (by kernel_rfl) Try.ntmps69 Try.results69 rfl ?_
    have h3 := strs_take3 hV.1
    have h3' := hV.1
    simp (disch := omega) [h3, h3']
    intro b7 hb7
    simp (disch := omega) [h3, h3']
    refine ht s V t _ _ hV (hst s _ _ _ hG hb7) ?_
    intro M' hJ hk
    simp (disch := omega)
    exact ret_of (h _ hJ (((Sub.refl M).put hb7 _).keepO.trans hk))
  | c :: p, V, t, s, M, R, hp, hp8, hV, htl, hG, h => by
    rw [List.all_cons, Bool.and_eq_true] at hp
    have hc := isV_range hp.1
    refine does_fn tab_ok Try.func69 rfl (by kernel_rfl) (by kernel_rfl) Try.ntmps69 Try.results69 rfl ?_
    have h3 := strs_take3 hV.1
    have h3' := hV.1
    have hk : ((c.toNat : Int) - 65).toNat = vIdx c := by unfold vIdx; omega
    have hk3 : vIdx c < 3 := by unfold vIdx; omega
    have hgv := val_get hV.1 hk3
    have hsm := small_get hV (vIdx c)
    have hold := sols_old (w := w) (p := p) (V := V) (t := t) (c := c)
    have hnew := sols_new (w := w) (p := p) (V := V) (t := t) (c := c)
    rw [List.length_cons] at hp8
    obtain ⟨own, hown⟩ : ∃ own, own = V.getD (vIdx c) [] := ⟨_, rfl⟩
    rw [← hown] at hgv hsm hold hnew
    obtain ⟨k, hkk⟩ : ∃ k, k = vIdx c := ⟨_, rfl⟩
    rw [← hkk] at hk hk3 hgv hnew hown
    simp (disch := omega) [h3, h3']
    intro b7 hb7
    have hG7 := hst s _ _ (.cells true (strs V) 3) hG hb7
    have hs7 : KeepO O M (M.put b7 (.cells true (strs V) 3)) := ((Sub.refl M).put hb7 (.cells true (strs V) 3)).keepO
    have k7 : (M.put b7 (.cells true (strs V) 3)) b7 = some (.cells true (strs V) 3) := put_same _ _ _
    have ho7 : ¬ O b7 := fun ho => hO s M b7 hG ho hb7
    simp (disch := omega) [h3, h3', hk, hgv]
    by_cases h0 : own = []
    · rw [hnew h0] at h
      subst h0
      simp (disch := omega)
      generalize M.put b7 (.cells true (strs V) 3) = N at *
      refine loop_to tab_ok [10, 13, 14, 48, 49, 50, 51, 52, 53, 54, 55, 56, 57, 58, 59, 60, 61, 62, 63, 64, 65, 66, 67] (fun x : Nat × S => [(13, .int .i64 (((t + x.1 : Nat) : Int) + 1))]) (fun x M' => t + x.1 ≤ w.length ∧ runS step s (solsN w p V k t x.1) = (x.2, false) ∧ J x.2 M' ∧ KeepO O N M') (fun x => w.length - x.1) (0, s) (by kernel_rfl) (by simp (disch := omega)) ⟨by simp only; omega, rfl, hG7, KeepO.refl _ _⟩ ?_
      rintro ⟨n, s'⟩ M' g ⟨hn, hno, hJ, hK⟩
      simp only at hn hno hJ hK
      have hsucc := solsN_succ w p V k t n
      have k7' := hK _ _ ho7 k7
      by_cases hlt : t + n < w.length
      · simp (disch := omega) [sub_of k7', h3, h3']
        intro b14 hb14
        simp (disch := omega) [h3, h3']
        refine ⟨flat_strs V, ?_⟩
        have hJ14 := hst s' _ _ (.cells true (strs (V.set k ((w.drop t).take (n + 1)))) 3) hJ hb14
        have hV' : Small3 (V.set k ((w.drop t).take (n + 1))) := small_set hV (by rw [List.length_take]; omega)
        have h4 := strs_take3 hV'.1
        have hseg : List.drop t (List.take ((t : Int) + n + 1).toNat w) = (w.drop t).take (n + 1) := by
          rw [show ((t : Int) + n + 1).toNat = t + (n + 1) by omega, List.drop_take, show t + (n + 1) - t = n + 1 by omega]
        have e2 : ((t : Int) + n + 1) = ((t + (n + 1) : Nat) : Int) := by omega
        refine draws [0, 1, 2, 3, 4, 5, 6] [0, 0, 0, 0, 0, 0, 2] tab_ok (by kernel_rfl) (by kernel_rfl) (by kernel_rfl) (by rfl) ?_
        simp (disch := omega) [strs_set, hk, hseg, h4]
        rw [e2]
        refine matchS_does w hl step fv hfl O J hO hst ht p (V.set k ((w.drop t).take (n + 1))) (t + (n + 1)) s' _ _ hp.2 (by omega) hV' (by omega) hJ14 ?_
        intro M2 hJ2 hK2
        have hK3 : KeepO O N M2 := (hK.trans ((Sub.refl M').put hb14 _).keepO).trans hK2
        have happ : runS step s (solsN w p V k t (n + 1)) = runS step s' (sols w p (V.set k ((w.drop t).take (n + 1))) (t + (n + 1))) := by
          rw [hsucc, runS_on (by rw [hno]), hno]
        generalize hq : runS step s' (sols w p (V.set k ((w.drop t).take (n + 1))) (t + (n + 1))) = out at *
        obtain ⟨s2, bo⟩ := out
        simp only at hJ2
        cases bo with
        | false =>
          simp (disch := omega)
          exact Rnd.mk' (n + 1, s2) (by simp only; omega) (by (repeat (first | exact km | refine kp rfl ?_ | refine km' rfl ?_))) (by simp (disch := omega)) ⟨by simp only; omega, happ, hJ2, hK3⟩
        | true =>
          have hall : runS step s (solsN w p V k t (w.length - t)) = (s2, true) := by
            obtain ⟨d, hd⟩ : ∃ d, w.length - t = (n + 1) + d := ⟨w.length - t - (n + 1), by omega⟩
            have hsp : solsN w p V k t (n + 1 + d) = solsN w p V k t (n + 1) ++ (List.range d).flatMap (fun i => sols w p (V.set k ((w.drop t).take (n + 1 + i + 1))) (t + (n + 1 + i + 1))) := by
              unfold solsN
              rw [List.range_add, List.flatMap_append, List.flatMap_map]
            rw [hd, hsp, runS_stop (by rw [happ]), happ]
          rw [hall] at h
          simp (disch := omega)
          exact ret_of (h _ hJ2 (hs7.trans hK3))
      · have hn' : n = w.length - t := by omega
        rw [← hn', hno] at h
        simp (disch := omega)
        exact ret_of (h _ hJ (hs7.trans hK))
    · have he : own.isEmpty = false := by cases own with
        | nil => exact absurd rfl h0
        | cons a l => rfl
      rw [hold h0] at h
      simp (disch := omega) [he]
      refine draws [0, 1, 2, 3, 4, 5, 6, 7, 8, 9, 10, 11, 12, 13, 14, 15, 16, 17] [0, 0, 0, 0, 0, 0, 0, 0, 0, 0, 0, 0, 0, 0, 0, 2, 0, 0] tab_ok (by kernel_rfl) (by kernel_rfl) (by kernel_rfl) (by rfl) ?_
      simp (disch := omega)
      refine vQCall_at (a := []) (c := []) (hasPrefix_does _ _ _ _ (by rw [List.length_drop]; omega) (by omega) ⟨rfl, rfl⟩) ?_
      cases hpre : own.isPrefixOf (w.drop t)
      · rw [hpre] at h
        simp (disch := omega)
        exact ret_of (h _ hG7 hs7)
      · rw [hpre, if_pos rfl] at h
        have hle := prefix_len hpre
        rw [List.length_drop] at hle
        have e1 : ((t : Int) + own.length) = ((t + own.length : Nat) : Int) := by push_cast; rfl
        simp (disch := omega) [sub_of k7, h3, h3']
        rw [e1]
        refine matchS_does w hl step fv hfl O J hO hst ht p V (t + own.length) s _ _ hp.2 (by omega) hV (by omega) hG7 ?_
        intro M2 hJ2 hK2
        simp (disch := omega)
        exact ret_of (h _ hJ2 (hs7.trans hK2))
end Go.Proofs.Yticejlplbibegaa

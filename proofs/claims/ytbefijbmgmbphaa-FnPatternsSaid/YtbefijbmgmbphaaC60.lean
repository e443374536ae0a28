/- Draws: words and patterns that they often fit. -/
import Derived.Test.YtbefijbmgmbphaaC59
namespace Go.Proofs.Ytbefijbmgmbphaa
open Go
set_option linter.unusedSimpArgs false
set_option linter.unusedVariables false

theorem cntTo_snoc {p : List UInt8} {k i : Nat} (hi : i < p.length) : cntV (p.take (i + 1)) k = cntV (p.take i) k + if vIdx p[i] = k then 1 else 0 := cntV_snoc hi
theorem cntTake_le {p : List UInt8} {k i : Nat} : cntV (p.take i) k ≤ p.length := by
  have : cntV (p.take i) k ≤ (p.take i).length := List.countP_le_length
  rw [List.length_take] at this; omega
theorem goes_len {p w : List UInt8} {V : Vals} (hg : Goes p V0 V) {j : Nat} (h : subV p V <+: w.drop j) (hw : w.length ≤ 60) {k : Nat} (hk : occ p k) : (V.getD k []).length ≤ 60 := by
  have h1 : ∀ q : List UInt8, occ q k → (V.getD k []).length ≤ (subV q V).length := by
    intro q
    induction q with
    | nil => intro h; exact absurd h (occ_nil k)
    | cons c q ih =>
      intro h
      rw [subV_cons, List.length_append]
      rcases (occ_cons c q k).1 h with e | e
      · rw [e]; omega
      · have := ih e; omega
  have h2 := h1 p hk
  have h3 := h.length_le
  rw [List.length_drop] at h3
  omega
theorem drawFP_does (v : Value) (xs : List UInt8) (M : Mem) (R : Value → Mem → Prop) (hv : Rd M v (bytesV xs)) (hl : xs.length ≤ 4096) (h : ∀ w p M', Sub M M' → (w : List UInt8).length ≤ 1000 → (p : List UInt8).length ≤ 100 → R (.tuple #[str w, str p]) M') : Does Try.prog 36 [v] M R := by
  refine does_fn tab_ok Try.func36 rfl (by kernel_rfl) (by kernel_rfl) Try.ntmps36 Try.results36 rfl ?_
  simp (disch := omega)
  refine with_does v xs _ _ hv hl ?_
  intro w p M' s1 hw hp
  simp (disch := omega)
  exact ret_of (h w p M' s1 hw hp)
set_option maxHeartbeats 1000000 in
theorem drawFits_does (v : Value) (xs : List UInt8) (M : Mem) (R : Value → Mem → Prop) (hv : Rd M v (bytesV xs)) (hl : xs.length ≤ 4096) (h : ∀ w p M', Sub M M' → (w : List UInt8).length ≤ 1000 → (p : List UInt8).length ≤ 100 → R (.tuple #[str w, str p]) M') : Does Try.prog 39 [v] M R := by
  refine does_fn tab_ok Try.func39 rfl (by kernel_rfl) (by kernel_rfl) Try.ntmps39 Try.results39 rfl ?_
  simp (disch := omega)
  refine from_does v xs _ _ hv hl ?_
  intro s M0 hs0 s0 hsrc
  simp (disch := omega)
  refine with_does v xs _ _ (hv.sub s0) hl ?_
  intro w p M1 s1 hw hp
  have src1 := hsrc.sub s1
  simp (disch := omega)
  refine spec_FirstPlace w p _ _ (by omega) (by omega) ?_
  intro vs M2 o2
  have src2 := src1.sub o2.sub
  have sM2 : Sub M M2 := (s0.trans s1).trans o2.sub
  obtain ⟨D, r1, r2, r3⟩ := own_alone o2
  simp (disch := omega)
  by_cases hc : plC w p = 0
  · rw [hc]
    simp (disch := omega)
    refine nx_does s 2 _ _ src2 ?_
    intro x M3 _ hx d3
    have sM3 : Sub M M3 := d3.keep M hs0 sM2
    by_cases x0 : x = 0
    · simp (disch := omega) [x0]
      have rv : Rd M3 vs (strs (plL w p)) := r1.sub (d3.keep D (r3 _ src1.told) r2)
      unfold plC at hc
      unfold plL at rv
      unfold plI
      cases hb : isWord w && isPat p with
      | false => rw [hb] at hc; cases hc
      | true =>
        rw [hb, if_pos rfl] at hc
        rw [hb, if_pos rfl] at rv
        rw [if_pos rfl]
        rw [Bool.and_eq_true] at hb
        obtain ⟨hp1, hp8, hpv⟩ := isPat_in hb.2
        have h60 := isWord_len hb.1
        have hne : p ≠ [] := by rintro rfl; simp at hp1
        have hpl := place_is (w := w) (pat_lt hb.2) hne
        cases hf : placeF w p with
        | none => rw [hf] at hc; cases hc
        | some r =>
          obtain ⟨j, V⟩ := r
          rw [hf] at hpl rv
          obtain ⟨_, hj, hg, hpre⟩ := hpl
          have hV3 : V.length = 3 := hg.len
          have hpll := hpre.length_le
          rw [List.length_drop] at hpll
          have hll := lenTo_all (pat_lt hb.2) V
          have rv : Rd M3 vs (strs (fillV V)) := rv
          obtain ⟨a, c, rfl, ha⟩ := rv.opened
          rw [strs_length] at ha ⊢
          have hnew : ∀ k, V.getD k [] ≠ [] ↔ occ p k := fun k => hg.new k (v0_get k)
          have hlen60 : ∀ k, occ p k → (V.getD k []).length ≤ 60 := fun k hk => goes_len hg hpre h60 hk
          simp (disch := omega)
          refine loop_to tab_ok [10, 11, 12, 13, 14, 36, 37, 38, 39, 40, 41, 42, 43, 44, 45, 46, 47, 48, 49, 50, 51, 52, 53, 54, 55, 56, 57, 58, 59, 60, 61, 62, 63, 64, 65] (fun k : Nat => [(12, .int .u8 ((65 + k : Nat) : Int)), (10, .int .i64 (lenTo p V k : Nat)), (11, .int .i64 (idxV V k : Nat))]) (fun k M' => M3 = M' ∧ k ≤ 3 ∧ lenTo p V k ≤ 480 * k ∧ idxV V k ≤ k) (fun k => 3 - k) 0 (by kernel_rfl) (by simp (disch := omega) [lenTo, idxV_zero]) ⟨rfl, by omega, by simp [lenTo], by rw [idxV_zero]; exact Nat.le_refl 0⟩ ?_
          rintro k M' g ⟨rfl, hk, hlk, hik⟩
          obtain ⟨K, hK⟩ : ∃ K, K = 65 + k := ⟨_, rfl⟩
          rw [← hK]
          by_cases hlt : k < 3
          · have hK1 : (K : Int) ≤ 67 := by omega
            simp (disch := omega) [hK1]
            refine loop_to tab_ok [13, 14, 40, 41, 42, 43, 44, 45, 46, 47, 48, 49, 50, 51, 52] (fun i : Nat => [(14, .int .i64 i), (13, .int .i64 (cntV (p.take i) k : Nat))]) (fun i M' => M3 = M' ∧ i ≤ p.length) (fun i => p.length - i) 0 (by kernel_rfl) (by simp (disch := omega) [cntV]) ⟨rfl, by omega⟩ ?_
            rintro i M' g1 ⟨rfl, hi⟩
            have hct := cntTake_le (p := p) (k := k) (i := i)
            by_cases hlt2 : i < p.length
            · have hpx : p[i]? = some p[i] := List.getElem?_eq_getElem hlt2
              have hpr := isV_range (List.all_eq_true.1 hpv _ (List.getElem_mem hlt2))
              have hsn := cntTo_snoc (k := k) hlt2
              have hvi : vIdx p[i] = p[i].toNat - 65 := rfl
              rw [hvi] at hsn
              generalize cntV (p.take i) k = C0 at *
              generalize p[i] = u at *
              by_cases he : u.toNat - 65 = k
              · rw [if_pos he] at hsn
                have he' : (u.toNat : Int) = K := by omega
                simp (disch := omega) [hpx, at_u8 hpx, he']
                refine Rnd.mk' (i + 1) (by omega) (by (repeat (first | exact km | refine kp rfl ?_ | refine km' rfl ?_))) (by simp (disch := omega); rw [hsn]; omega) ⟨rfl, by omega⟩
              · rw [if_neg he] at hsn
                have he' : ¬ (u.toNat : Int) = K := by omega
                simp (disch := omega) [hpx, at_u8 hpx, he']
                refine Rnd.mk' (i + 1) (by omega) (by (repeat (first | exact km | refine kp rfl ?_ | refine km' rfl ?_))) (by simp (disch := omega); rw [hsn]; omega) ⟨rfl, by omega⟩
            · have hi' : i = p.length := by omega
              subst hi'
              rw [List.take_length] at hct ⊢
              have hlt1 : lenTo p V (k + 1) = lenTo p V k + cntV p k * (V.getD k []).length := rfl
              have hid := idxV_succ (V := V) (k := k) (by omega)
              have hz := @cntV_zero p k
              have hnk := hnew k
              have hK2 : (K : Int) + 1 = ((65 + (k + 1) : Nat) : Int) := by omega
              by_cases hcz : cntV p k = 0
              · have hno : V.getD k [] = [] := by
                  cases hv : V.getD k [] with
                  | nil => rfl
                  | cons a l => exact absurd (hnk.1 (by rw [hv]; simp)) (hz.1 hcz)
                rw [if_pos hno] at hid
                rw [hcz, Nat.zero_mul] at hlt1
                simp (disch := omega) [hcz]
                refine Rnd.mk' (k + 1) (by omega) (by (repeat (first | exact km | refine kp rfl ?_ | refine km' rfl ?_))) (by simp (disch := omega) [hlt1, hid]; omega) ⟨rfl, by omega, by omega, by omega⟩
              · have hoc : occ p k := Classical.byContradiction fun hn => hcz (hz.2 hn)
                have hne2 := hnk.2 hoc
                rw [if_neg hne2] at hid
                have hfa := fill_at (V := V) (k := k) (by omega) hne2
                have hl6 := hlen60 k hoc
                have hil := (List.getElem?_eq_some_iff.1 hfa).1
                rcases ha with h0 | ⟨b, o, rfl, ha⟩
                · omega
                have hgt := ha (idxV V k) hil
                rw [strs_get, hfa] at hgt
                have hmul : cntV p k * (V.getD k []).length ≤ 8 * 60 := Nat.mul_le_mul (by omega) hl6
                obtain ⟨P, hP⟩ : ∃ P, P = cntV p k * (V.getD k []).length := ⟨_, rfl⟩
                have hPi : (cntV p k : Int) * ((V.getD k []).length : Int) = P := by rw [hP]; push_cast; rfl
                rw [← hP] at hlt1 hmul
                have hcp : (0 : Int) < cntV p k := by omega
                have hcpn : 0 < cntV p k := by omega
                generalize V.getD k [] = u at *
                generalize idxV V k = I0 at *
                generalize lenTo p V k = L0 at *
                generalize cntV p k = C0 at *
                simp (disch := omega) [hcp, hcpn, hgt, hPi]
                refine Rnd.mk' (k + 1) (by omega) (by (repeat (first | exact km | refine kp rfl ?_ | refine km' rfl ?_))) (by simp (disch := omega) [hlt1, hid]; omega) ⟨rfl, by omega, by omega, by omega⟩
          · have hk3 : k = 3 := by omega
            subst hk3
            have hK1 : ¬ (K : Int) ≤ 67 := by omega
            rw [hll] at hlk ⊢
            generalize (subV p V).length = L0 at *
            simp (disch := omega) [hK1]
            exact ret_of (h _ p _ sM3 (by rw [List.length_drop, List.length_take]; omega) hp)
    · simp (disch := omega) [x0]
      exact ret_of (h w p _ sM3 hw hp)
  · simp (disch := omega) [hc]
    exact ret_of (h w p _ sM2 hw hp)
end Go.Proofs.Ytbefijbmgmbphaa

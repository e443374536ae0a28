/- Contracts: words that fit patterns, and words that avoid them. -/
import Derived.Test.YticejlplbibegaaC16
import Derived.Test.YticejlplbibegaaM2
import Derived.Test.YticejlplbibegaaEB
namespace Go.Proofs.Yticejlplbibegaa
open Go
set_option linter.unusedSimpArgs false
set_option linter.unusedVariables false

def isV (c : UInt8) : Bool := decide (65 ≤ c.toNat) && decide (c.toNat < 68)
theorem wrap_rune {x : Int} (h : 0 ≤ x ∧ x ≤ 127) : IntKind.i32.wrap x = x := by
  unfold IntKind.wrap
  simp [IntKind.bits, IntKind.signed]
  omega
theorem rune_ltr {i : Nat} (h : i ≤ 5) : UInt8.ofNat ((97 : Int) + i).toNat = ltr i := by
  unfold ltr
  rw [show ((97 : Int) + i).toNat = 97 + i by omega]
theorem rd_src {N : Mem} {v : Value} {xs : List Value} (h : Rd N v xs) (h1 : 1 ≤ xs.length) : srcOf N v = some xs := by
  rcases h with ⟨a, c, rfl, rfl⟩ | ⟨b, o, c, rfl, h, _⟩
  · simp at h1
  · exact h
theorem Sub.set {M N : Mem} {b : Nat} (h : Sub M N) (hb : M b = none) (B : Blk) : Sub M (N.set b B) := by
  rw [set_is]
  intro i Bi hi
  have : i ≠ b := by rintro rfl; rw [hb] at hi; cases hi
  rw [put_ne _ _ this]
  exact h _ _ hi
theorem isV_range {c : UInt8} (h : isV c = true) : 65 ≤ c.toNat ∧ c.toNat < 68 := by
  unfold isV at h
  simpa using h
def allV (p : List UInt8) : Bool := p.all isV
theorem isPat_in {p : List UInt8} (h : isPat p = true) : 1 ≤ p.length ∧ p.length ≤ 8 ∧ p.all isV = true := by
  unfold isPat at h
  rw [Bool.and_eq_true, decide_eq_true_eq] at h
  exact ⟨h.1.1, h.1.2, h.2⟩
def anyQ (q : Vals × Nat → Bool) (l : List (Vals × Nat)) : Bool := l.any q
def Small3 (V : Vals) : Prop := V.length = 3 ∧ ∀ x ∈ V, x.length ≤ 60
theorem small_set {V : Vals} (h : Small3 V) {k : Nat} {x : List UInt8} (hx : x.length ≤ 60) : Small3 (V.set k x) :=
  ⟨by rw [List.length_set]; exact h.1, fun y hy => by
    rcases List.mem_or_eq_of_mem_set hy with hy | rfl
    · exact h.2 y hy
    · exact hx⟩
theorem small_get {V : Vals} (h : Small3 V) (k : Nat) : (V.getD k []).length ≤ 60 := by
  rw [List.getD_eq_getElem?_getD]
  cases hk : V[k]? with
  | none => simp
  | some x => exact h.2 x (List.mem_of_getElem? hk)
theorem small0 : Small3 V0 := ⟨rfl, by intro x hx; unfold V0 at hx; simp at hx; subst hx; simp⟩
theorem val_get {V : Vals} (h : V.length = 3) {k : Nat} (hk : k < 3) : (strs V)[k]? = some (str (V.getD k [])) := by
  rw [strs_get, List.getElem?_eq_getElem (by omega), List.getD_eq_getElem?_getD, List.getElem?_eq_getElem (by omega)]; rfl
theorem strs_take3 {V : Vals} (h : V.length = 3) : (strs V).take 3 = strs V := List.take_of_length_le (by rw [strs_length]; omega)
theorem prefix_beq (a b : List UInt8) (h : b.length ≤ a.length) : (a.take b.length == b) = b.isPrefixOf a := by
  rw [Bool.eq_iff_iff, beq_iff_eq, List.isPrefixOf_iff_prefix, List.prefix_iff_eq_take]
  exact ⟨fun h => h.symm, fun h => h.symm⟩
theorem prefix_no {a b : List UInt8} (h : a.length < b.length) : b.isPrefixOf a = false := by
  cases hp : b.isPrefixOf a with
  | false => rfl
  | true => have := prefix_len hp; omega
theorem sHasPrefix_does (a b : List UInt8) (M : Mem) (R : Value → Mem → Prop) (ha : a.length ≤ 1099511627776) (hb : b.length ≤ 1099511627776) (h : R (.bool (b.isPrefixOf a)) M) : Does Try.prog 94 [str a, str b] M R := by
  refine does_fn tab_ok Try.func94 rfl (by kernel_rfl) (by kernel_rfl) Try.ntmps94 Try.results94 rfl ?_
  by_cases hlt : b.length ≤ a.length
  · have e := prefix_beq a b hlt
    have hlt' : (b.length : Int) ≤ a.length := by omega
    simp (disch := omega) [e, hlt, hlt']
    exact ret_of h
  · have hlt' : ¬ (b.length : Int) ≤ a.length := by omega
    rw [prefix_no (by omega)] at h
    simp (disch := omega) [hlt, hlt']
    exact ret_of h
theorem hasPrefix_does (a b : List UInt8) (M : Mem) (R : Value → Mem → Prop) (ha : a.length ≤ 1099511627776) (hb : b.length ≤ 1099511627776) (h : R (.bool (b.isPrefixOf a)) M) : Does Try.prog 86 [str a, str b] M R := by
  refine does_fn tab_ok Try.func86 rfl (by kernel_rfl) (by kernel_rfl) Try.ntmps86 Try.results86 rfl ?_
  simp (disch := omega)
  refine sHasPrefix_does a b _ _ ha hb ?_
  simp (disch := omega)
  exact ret_of h
theorem isPattern1_tells (l : List UInt8) : Tells Try.prog (.func (.func 51) #[] #[]) (bytesV l) (onB isV) (fun _ => True) := by
  intro x hx M R _ h
  obtain ⟨u, hu, rfl⟩ := mem_bytes hx
  rw [onB_byte] at h
  unfold isV at h
  simp (disch := omega)
  refine does_fn tab_ok Try.func51 rfl (by kernel_rfl) (by kernel_rfl) Try.ntmps51 Try.results51 rfl ?_
  have := u.toNat_lt
  by_cases h1 : 65 ≤ u.toNat
  · rw [decide_eq_true h1, Bool.true_and] at h
    have h1' : (65 : Int) ≤ u.toNat := by omega
    simp (disch := omega) [h1']
    refine ret_of ?_
    have e : decide ((u.toNat : Int) < 68) = decide (u.toNat < 68) := by
      by_cases h2 : u.toNat < 68
      · rw [decide_eq_true h2]; exact decide_eq_true (by omega)
      · rw [decide_eq_false h2]; exact decide_eq_false (by omega)
    rw [e]
    exact h
  · rw [decide_eq_false h1, Bool.false_and] at h
    have h1' : ¬ (65 : Int) ≤ u.toNat := by omega
    simp (disch := omega) [h1']
    exact ret_of h
theorem isPattern_does (p : List UInt8) (M : Mem) (R : Value → Mem → Prop) (hl : p.length ≤ 1099511627776) (h : R (.bool (isPat p)) M) : Does Try.prog 21 [str p] M R := by
  refine does_fn tab_ok Try.func21 rfl (by kernel_rfl) (by kernel_rfl) Try.ntmps21 Try.results21 rfl ?_
  simp (disch := omega)
  refine size_does p _ _ hl ?_
  simp (disch := omega)
  refine within_does _ 1 8 _ _ ?_
  unfold isPat at h
  by_cases h1 : 1 ≤ p.length ∧ p.length ≤ 8
  · rw [decide_eq_true h1, Bool.true_and] at h
    have e : decide ((1 : Int) ≤ (p.length : Int) ∧ (p.length : Int) ≤ 8) = true := decide_eq_true (by omega)
    rw [e]
    simp (disch := omega)
    intro b c hb hc
    simp (disch := omega)
    refine areAllB_does _ _ (bytesV p) (onB isV) (fun _ => True) _ _ (Rd.new (bytesV_length p) (by simp (disch := omega) at hc; omega)) trivial stab_true (isPattern1_tells p) rfl (by rw [bytesV_length]; omega) ?_
    rw [all_bytes]
    simp (disch := omega)
    exact ret_sub ((Sub.refl M).put hb _) h
  · rw [decide_eq_false h1, Bool.false_and] at h
    have e : decide ((1 : Int) ≤ (p.length : Int) ∧ (p.length : Int) ≤ 8) = false := decide_eq_false (by omega)
    rw [e]
    simp (disch := omega)
    exact ret_of h
theorem l10Is_does (p : List UInt8) (M : Mem) (R : Value → Mem → Prop) (hl : p.length ≤ 1099511627776) (h : R (.bool (isPat p)) M) : Does Try.prog 24 [str p] M R := by
  refine does_fn tab_ok Try.func24 rfl (by kernel_rfl) (by kernel_rfl) Try.ntmps24 Try.results24 rfl ?_
  simp (disch := omega)
  refine loop_to tab_ok [2, 3, 4, 5, 6, 7, 8, 9, 10, 11, 12, 13, 14, 15, 16, 17, 18, 19] (fun i : Nat => [(3, .int .i64 i)]) (fun i M' => M' = M ∧ i ≤ p.length ∧ allV (p.take i) = true) (fun i => p.length - i) 0 (by kernel_rfl) (by simp (disch := omega)) ⟨rfl, by omega, rfl⟩ ?_
  rintro i M' g ⟨rfl, hi, hall⟩
  by_cases hlt : i < p.length
  · have hx : p[i]? = some p[i] := List.getElem?_eq_getElem hlt
    have hu := p[i].toNat_lt
    by_cases hv : isV p[i] = true
    · have hr := isV_range hv
      have h65' : ¬ (p[i].toNat : Int) < 65 := by omega
      have h68' : ¬ 67 < (p[i].toNat : Int) := by omega
      simp (disch := omega) [hx, h65', h68']
      refine Rnd.mk' (i + 1) (by omega) (by (repeat (first | exact km | refine kp rfl ?_ | refine km' rfl ?_))) (by simp (disch := omega)) ⟨rfl, by omega, ?_⟩
      unfold allV at hall ⊢
      rw [take_snoc p hlt, List.all_append, hall]
      simpa using hv
    · have hno : isPat p = false := by
        unfold isPat
        have : p.all (fun c => decide (65 ≤ c.toNat) && decide (c.toNat < 68)) = false := by
          cases hq : p.all (fun c => decide (65 ≤ c.toNat) && decide (c.toNat < 68)) with
          | false => rfl
          | true => exact absurd (List.all_eq_true.1 hq _ (List.getElem_mem hlt)) hv
        rw [this, Bool.and_false]
      rw [hno] at h
      by_cases h65 : 65 ≤ p[i].toNat
      · have h68 : ¬ p[i].toNat < 68 := fun hh => hv (by unfold isV; simp; omega)
        have h65' : ¬ (p[i].toNat : Int) < 65 := by omega
        have h68' : 67 < (p[i].toNat : Int) := by omega
        simp (disch := omega) [hx, h65', h68']
        exact ret_of h
      · have h65' : (p[i].toNat : Int) < 65 := by omega
        simp (disch := omega) [hx, h65']
        exact ret_of h
  · have hi' : i = p.length := by omega
    subst hi'
    rw [List.take_length] at hall
    unfold isPat at h
    rw [show p.all (fun c => decide (65 ≤ c.toNat) && decide (c.toNat < 68)) = true from hall, Bool.and_true] at h
    by_cases h0 : 0 < p.length
    · have h0' : 0 < (p.length : Int) := by omega
      simp (disch := omega) [h0, h0']
      refine ret_of ?_
      have e : decide ((p.length : Int) ≤ 8) = decide (1 ≤ p.length ∧ p.length ≤ 8) := by
        by_cases h8 : p.length ≤ 8
        · rw [decide_eq_true (show 1 ≤ p.length ∧ p.length ≤ 8 by omega)]; exact decide_eq_true (by omega)
        · rw [decide_eq_false (show ¬ (1 ≤ p.length ∧ p.length ≤ 8) by omega)]; exact decide_eq_false (by omega)
      rw [e]
      exact h
    · rw [decide_eq_false (by omega)] at h
      have h0' : ¬ 0 < (p.length : Int) := by omega
      simp (disch := omega) [h0, h0']
      exact ret_of h
theorem match_does (w : List UInt8) (hl : w.length ≤ 60) (q : Vals × Nat → Bool) (fv : Value) (hfl : flatV fv = true) (G : Mem → Prop) (hst : Stab G) (ht : ∀ V t M R, Small3 V → G M → R (.bool (q (V, t))) M → vCallV Try.prog fv [.agg (strs V).toArray, .int .i64 (t : Nat)] R M) :
    ∀ (p : List UInt8) (V : Vals) (t : Nat) (M : Mem) (R : Value → Mem → Prop), p.all isV = true → p.length ≤ 8 → Small3 V → t ≤ w.length → G M → R (.bool ((sols w p V t).any q)) M → Does Try.prog 69 [str w, str p, .agg (strs V).toArray, .int .i64 t, fv] M R
  | [], V, t, M, R, hp, hp8, hV, htl, hG, h => by
    unfold sols at h
    refine does_fn tab_ok Try.func69 rfl (by kernel_rfl) (by kernel_rfl) Try.ntmps69 Try.results69 rfl ?_
    have h3 := strs_take3 hV.1
    have h3' := hV.1
    simp (disch := omega) [h3, h3']
    intro b7 hb7
    simp (disch := omega) [h3, h3']
    refine ht V t _ _ hV (hst _ _ _ hG hb7) ?_
    simp (disch := omega)
    exact ret_sub ((Sub.refl M).put hb7 _) (by simpa using h)
  | c :: p, V, t, M, R, hp, hp8, hV, htl, hG, h => by
    rw [List.all_cons, Bool.and_eq_true] at hp
    have hc := isV_range hp.1
    refine does_fn tab_ok Try.func69 rfl (by kernel_rfl) (by kernel_rfl) Try.ntmps69 Try.results69 rfl ?_
    have h3 := strs_take3 hV.1
    have h3' := hV.1
    have hk : ((c.toNat : Int) - 65).toNat = vIdx c := by unfold vIdx; omega
    have hk3 : vIdx c < 3 := by unfold vIdx; omega
    have hgv := val_get hV.1 hk3
    have hsm := small_get hV (vIdx c)
    have hold := sols_old (w := w) (p := p) (V := V) (t := t) (c := c)
    have hnew := sols_new (w := w) (p := p) (V := V) (t := t) (c := c)
    rw [List.length_cons] at hp8
    obtain ⟨own, hown⟩ : ∃ own, own = V.getD (vIdx c) [] := ⟨_, rfl⟩
    rw [← hown] at hgv hsm hold hnew
    obtain ⟨k, hkk⟩ : ∃ k, k = vIdx c := ⟨_, rfl⟩
    rw [← hkk] at hk hk3 hgv hnew hown
    simp (disch := omega) [h3, h3']
    intro b7 hb7
    have hG7 := hst _ _ (.cells true (strs V) 3) hG hb7
    have hs7 := (Sub.refl M).put hb7 (.cells true (strs V) 3)
    have k7 : (M.put b7 (.cells true (strs V) 3)) b7 = some (.cells true (strs V) 3) := put_same _ _ _
    simp (disch := omega) [h3, h3', hk, hgv]
    by_cases h0 : own = []
    · rw [hnew h0] at h
      subst h0
      simp (disch := omega)
      generalize M.put b7 (.cells true (strs V) 3) = N at *
      refine loop_to tab_ok [10, 13, 14, 48, 49, 50, 51, 52, 53, 54, 55, 56, 57, 58, 59, 60, 61, 62, 63, 64, 65, 66, 67] (fun n : Nat => [(13, .int .i64 (((t + n : Nat) : Int) + 1))]) (fun n M' => M' = N ∧ t + n ≤ w.length ∧ anyQ q (solsN w p V k t n) = false) (fun n => w.length - n) 0 (by kernel_rfl) (by simp (disch := omega)) ⟨rfl, by omega, rfl⟩ ?_
      rintro n M' g ⟨rfl, hn, hno⟩
      have hsucc := solsN_succ w p V k t n
      by_cases hlt : t + n < w.length
      · simp (disch := omega) [sub_of k7, h3, h3']
        intro b14 hb14
        simp (disch := omega) [h3, h3']
        refine ⟨flat_strs V, ?_⟩
        have hG14 := hst _ _ (.cells true (strs (V.set k ((w.drop t).take (n + 1)))) 3) hG7 hb14
        have hV' : Small3 (V.set k ((w.drop t).take (n + 1))) := small_set hV (by rw [List.length_take]; omega)
        have h4 := strs_take3 hV'.1
        refine draw_to tab_ok (by kernel_rfl) (by kernel_rfl) (by rfl) ?_
        have hseg : List.drop t (List.take ((t : Int) + n + 1).toNat w) = (w.drop t).take (n + 1) := by
          rw [show ((t : Int) + n + 1).toNat = t + (n + 1) by omega, List.drop_take, show t + (n + 1) - t = n + 1 by omega]
        have e2 : ((t : Int) + n + 1) = ((t + (n + 1) : Nat) : Int) := by omega
        simp (disch := omega) [strs_set, hk, hseg, h4]
        rw [e2]
        refine vQCall_at (a := []) (c := []) (match_does w hl q fv hfl G hst ht p (V.set k ((w.drop t).take (n + 1))) (t + (n + 1)) _ _ hp.2 (by omega) hV' (by omega) hG14 ⟨rfl, rfl⟩) ?_
        cases hq : (sols w p (V.set k ((w.drop t).take (n + 1))) (t + (n + 1))).any q
        · simp (disch := omega)
          refine Rnd.mk'' M' (n + 1) ((Sub.refl M').put hb14 _) (by omega) (by (repeat (first | exact km | refine kp rfl ?_ | refine km' rfl ?_))) (by simp (disch := omega)) ⟨rfl, by omega, ?_⟩
          unfold anyQ at hno ⊢
          rw [hsucc, List.any_append, hno, hq]; rfl
        · have hyes : (solsN w p V k t (w.length - t)).any q = true := by
            rw [List.any_eq_true] at hq ⊢
            obtain ⟨x, hx, hqx⟩ := hq
            refine ⟨x, ?_, hqx⟩
            unfold solsN
            exact List.mem_flatMap.2 ⟨n, List.mem_range.2 (by omega), hx⟩
          rw [hyes] at h
          simp (disch := omega)
          exact ret_sub (hs7.putN hb14 _) h
      · have hn' : n = w.length - t := by omega
        unfold anyQ at hno
        rw [← hn', hno] at h
        simp (disch := omega)
        exact ret_sub hs7 h
    · have he : own.isEmpty = false := by cases own with
        | nil => exact absurd rfl h0
        | cons a l => rfl
      rw [hold h0] at h
      simp (disch := omega) [he]
      refine draw_to tab_ok (by kernel_rfl) (by kernel_rfl) (by rfl) ?_
      simp (disch := omega)
      refine vQCall_at (a := []) (c := []) (hasPrefix_does _ _ _ _ (by rw [List.length_drop]; omega) (by omega) ⟨rfl, rfl⟩) ?_
      cases hpre : own.isPrefixOf (w.drop t)
      · rw [hpre] at h
        simp (disch := omega)
        exact ret_sub hs7 h
      · rw [hpre, if_pos rfl] at h
        have hle := prefix_len hpre
        rw [List.length_drop] at hle
        have e1 : ((t : Int) + own.length) = ((t + own.length : Nat) : Int) := by push_cast; rfl
        simp (disch := omega) [sub_of k7, h3, h3']
        rw [e1]
        refine vQCall_at (a := []) (c := []) (match_does w hl q fv hfl G hst ht p V (t + own.length) _ _ hp.2 (by omega) hV (by omega) hG7 ⟨rfl, rfl⟩) ?_
        simp (disch := omega)
        exact ret_sub hs7 h
theorem fits_does (w p : List UInt8) (M : Mem) (R : Value → Mem → Prop) (hl : w.length ≤ 60) (hp : isPat p = true) (h : R (.bool (fitsB w p)) M) : Does Try.prog 71 [str w, str p] M R := by
  obtain ⟨hp1, hp8, hpv⟩ := isPat_in hp
  refine does_fn tab_ok Try.func71 rfl (by kernel_rfl) (by kernel_rfl) Try.ntmps71 Try.results71 rfl ?_
  simp (disch := omega)
  intro b2 hb2
  have hs2 := (Sub.refl M).put hb2 (.cells true [str w] 1)
  have k2 : (M.put b2 (.cells true [str w] 1)) b2 = some (.cells true [str w] 1) := put_same _ _ _
  simp (disch := omega)
  generalize M.put b2 (.cells true [str w] 1) = N at *
  refine match_does w hl (fun x => x.2 == w.length) _ rfl (fun M' => M' b2 = some (.cells true [str w] 1)) ?_ ?_ p V0 0 _ _ hpv hp8 small0 (by omega) k2 ?_
  · intro K b B q hb
    have : b2 ≠ b := by rintro rfl; rw [hb] at q; cases q
    rw [put_ne _ _ this]; exact q
  · intro V t K R' hV q hR
    have h3 := hV.1
    simp (disch := omega)
    refine does_fn tab_ok Try.func87 rfl (by kernel_rfl) (by kernel_rfl) Try.ntmps87 Try.results87 rfl ?_
    simp (disch := omega)
    intro b3 hb3
    have hne : b2 ≠ b3 := by rintro rfl; rw [hb3] at q; cases q
    have q3 : (K.put b3 (.cells true (strs V) 3)) b2 = some (.cells true [str w] 1) := by rw [put_ne _ _ hne]; exact q
    simp (disch := omega) [h3, get_of q]
    have e : ((t : Int) == (w.length : Int)) = (t == w.length) := by
      rw [Bool.eq_iff_iff, beq_iff_eq, beq_iff_eq]; omega
    rw [e]
    exact ret_sub ((Sub.refl K).put hb3 _) hR
  · rw [sols_fit w p V0 0 (by omega), List.drop_zero]
    simp (disch := omega)
    exact ret_sub hs2 h
def endsTo2 (w p : List UInt8) (n : Nat) : Bool := (List.range n).any fun i => fitsB (w.drop i) p
theorem endsTo2_succ (w p : List UInt8) (n : Nat) : endsTo2 w p (n + 1) = (endsTo2 w p n || fitsB (w.drop n) p) := by simp [endsTo2, List.range_succ]
theorem endsTo2_yes {w p : List UInt8} {n m : Nat} (hn : n < m) (h : fitsB (w.drop n) p = true) : endsTo2 w p m = true := by
  unfold endsTo2
  rw [List.any_eq_true]
  exact ⟨n, List.mem_range.2 hn, h⟩
theorem endsWith_does (w p : List UInt8) (M : Mem) (R : Value → Mem → Prop) (hl : w.length ≤ 60) (hp : isPat p = true) (h : R (.bool (endsP w p)) M) : Does Try.prog 61 [str w, str p] M R := by
  refine does_fn tab_ok Try.func61 rfl (by kernel_rfl) (by kernel_rfl) Try.ntmps61 Try.results61 rfl ?_
  simp (disch := omega)
  refine loop_to tab_ok [4, 5, 8, 9, 10, 11, 12, 13, 14, 15, 16] (fun i : Nat => [(8, .int .i64 i)]) (fun i M' => M' = M ∧ i ≤ w.length ∧ endsTo2 w p i = false) (fun i => w.length - i) 0 (by kernel_rfl) (by simp (disch := omega)) ⟨rfl, by omega, rfl⟩ ?_
  rintro i M' g ⟨rfl, hi, hno⟩
  by_cases hlt : i < w.length
  · have hs := endsTo2_succ w p i
    simp (disch := omega)
    refine fits_does _ _ _ _ (by rw [List.length_drop]; omega) hp ?_
    cases hf : fitsB (w.drop i) p
    · rw [hno, hf] at hs
      simp (disch := omega)
      exact Rnd.mk' (i + 1) (by omega) (by (repeat (first | exact km | refine kp rfl ?_ | refine km' rfl ?_))) (by simp (disch := omega)) ⟨rfl, by omega, hs⟩
    · rw [show endsP w p = true from endsTo2_yes hlt hf] at h
      simp (disch := omega)
      exact ret_of h
  · have hi' : i = w.length := by omega
    rw [show endsP w p = endsTo2 w p w.length from rfl, ← hi', hno] at h
    simp (disch := omega)
    exact ret_of h
theorem avoidCode_does (p : List UInt8) (b : Bool) (M : Mem) (R : Value → Mem → Prop) (hl : p.length ≤ 1099511627776) (h : R (.int .i64 (if isPat p then (if b then 0 else 2) else 1)) M) : Does Try.prog 27 [str p, .bool b] M R := by
  refine does_fn tab_ok Try.func27 rfl (by kernel_rfl) (by kernel_rfl) Try.ntmps27 Try.results27 rfl ?_
  simp (disch := omega)
  refine isPattern_does p _ _ hl ?_
  cases hp : isPat p
  · rw [hp] at h
    simp (disch := omega)
    exact ret_of h
  · rw [hp] at h
    cases b
    · simp (disch := omega)
      exact ret_of h
    · simp (disch := omega)
      exact ret_of h
theorem l10Sizes_does (p : List UInt8) (k w n t : Int) (M : Mem) (R : Value → Mem → Prop) (hl : p.length ≤ 1099511627776) (h : R (.int .i64 (if isPat p then (if decide (1 ≤ k ∧ k ≤ w) && decide (0 ≤ n ∧ n ≤ t) then 0 else 2) else 1)) M) : Does Try.prog 41 [str p, .int .i64 k, .int .i64 w, .int .i64 n, .int .i64 t] M R := by
  refine does_fn tab_ok Try.func41 rfl (by kernel_rfl) (by kernel_rfl) Try.ntmps41 Try.results41 rfl ?_
  simp (disch := omega)
  refine l10Is_does p _ _ hl ?_
  cases hp : isPat p
  · rw [hp] at h
    simp (disch := omega)
    exact ret_of h
  · rw [hp, if_pos rfl] at h
    simp (disch := omega)
    refine l01In_does _ _ _ _ _ ?_
    cases h1 : decide (1 ≤ k ∧ k ≤ w)
    · rw [h1] at h
      simp (disch := omega)
      exact ret_of h
    · rw [h1, Bool.true_and] at h
      simp (disch := omega)
      refine l01In_does _ _ _ _ _ ?_
      cases h2 : decide (0 ≤ n ∧ n ≤ t)
      · rw [h2] at h
        simp (disch := omega)
        exact ret_of h
      · rw [h2] at h
        simp (disch := omega)
        exact ret_of h
theorem avoiding_does {S : Type} (p : List UInt8) (k n : Nat) (hp : isPat p = true) (hk : k ≤ 5) (hn : n ≤ 50) (fv : Value) (step : S → List UInt8 → S × Bool) (J : S → Mem → Prop) (ht : ∀ s w M R, w.length = n → J s M → (∀ M', J (step s w).1 M' → R (.bool (step s w).2) M') → vCallV Try.prog fv [str w] R M) :
    ∀ (d : Nat) (w : List UInt8) (s : S) (M : Mem) (R : Value → Mem → Prop), w.length + d = n → J s M → (∀ M', J (runS step s (avL p k d w)).1 M' → R (.bool (runS step s (avL p k d w)).2) M') → Does Try.prog 39 [str p, .int .i64 k, .int .i64 n, str w, fv] M R
  | 0, w, s, M, R, hd, hJ, h => by
    have hb : ((w.length : Int) == n) = true := by rw [beq_iff_eq]; omega
    unfold avL at h
    rw [runS_one] at h
    refine does_fn tab_ok Try.func39 rfl (by kernel_rfl) (by kernel_rfl) Try.ntmps39 Try.results39 rfl ?_
    simp (disch := omega)
    refine size_does w _ _ (by omega) ?_
    simp (disch := omega) [hb]
    refine ht s w _ _ (by omega) hJ fun M' hM' => ?_
    simp (disch := omega)
    exact ret_of (h M' hM')
  | d + 1, w, s, M, R, hd, hJ, h => by
    have hb : ((w.length : Int) == n) = false := beq_eq_false_iff_ne.2 (by omega)
    refine does_fn tab_ok Try.func39 rfl (by kernel_rfl) (by kernel_rfl) Try.ntmps39 Try.results39 rfl ?_
    simp (disch := omega)
    refine size_does w _ _ (by omega) ?_
    simp (disch := omega) [hb]
    refine loop_to tab_ok [10, 11, 12, 21, 22, 23, 24, 25, 26, 27, 28, 29, 30, 31, 32, 33, 34, 35, 36, 37, 38, 39, 40] (fun i : Nat => [(21, .int .i64 i)]) (fun i M' => i ≤ k ∧ J (runS step s (avN p k d w i)).1 M' ∧ (runS step s (avN p k d w i)).2 = false) (fun i => k - i) 0 (by kernel_rfl) (by simp (disch := omega)) ⟨by omega, by rw [avN_zero, runS_nil]; exact hJ, by rw [avN_zero, runS_nil]⟩ ?_
    rintro i M' g ⟨hi, hM', hno⟩
    have hs := avN_succ p k d w i
    by_cases hlt : i < k
    · simp (disch := omega)
      refine letterN_does i _ _ (by omega) ?_
      simp (disch := omega)
      have hl' : (w ++ [ltr i]).length = w.length + 1 := by simp
      refine endsWith_does _ p _ _ (by omega) hp ?_
      unfold avS at hs
      cases he : endsP (w ++ [ltr i]) p
      · rw [he, if_neg (by decide)] at hs
        simp (disch := omega)
        refine avoiding_does p k n hp hk hn fv step J ht d (w ++ [ltr i]) (runS step s (avN p k d w i)).1 _ _ (by omega) hM' fun M2 hM2 => ?_
        rw [← runS_on hno, ← hs] at hM2
        have hrun : runS step (runS step s (avN p k d w i)).1 (avL p k d (w ++ [ltr i])) = runS step s (avN p k d w (i + 1)) := by rw [hs, runS_on hno]
        rw [hrun]
        cases hr : (runS step s (avN p k d w (i + 1))).2
        · simp (disch := omega)
          exact Rnd.mk' (i + 1) (by omega) (by (repeat (first | exact km | refine kp rfl ?_ | refine km' rfl ?_))) (by simp (disch := omega)) ⟨by omega, hM2, hr⟩
        · obtain ⟨rest, hrest⟩ := avL_split p k d w (i := i + 1) (by omega)
          rw [hrest, runS_stop hr, hr] at h
          simp (disch := omega)
          exact ret_of (h M2 hM2)
      · rw [he, if_pos rfl, List.append_nil] at hs
        simp (disch := omega)
        exact Rnd.mk' (i + 1) (by omega) (by (repeat (first | exact km | refine kp rfl ?_ | refine km' rfl ?_))) (by simp (disch := omega)) ⟨by omega, by rw [hs]; exact hM', by rw [hs]; exact hno⟩
    · have hi' : i = k := by omega
      rw [hi'] at hM' hno
      rw [avL_all p k d w, hno] at h
      simp (disch := omega)
      exact ret_of (h M' hM')
theorem l10Fit_does : ∀ (p w : List UInt8) (V : Vals) (v : Value) (M : Mem) (R : Value → Mem → Prop), p.all isV = true → p.length ≤ 8 → w.length ≤ 60 → Small3 V → Rd M v (strs V) → (∀ v' M', Sub M M' → R (.tuple #[v', .bool (fitB p w V)]) M') →
    Does Try.prog 74 [str w, str p, v] M R
  | [], w, V, v, M, R, hp, hp8, hl, hV, hv, h => by
    unfold fitB at h
    obtain ⟨a, c, rfl, ha⟩ := hv.opened
    refine does_fn tab_ok Try.func74 rfl (by kernel_rfl) (by kernel_rfl) Try.ntmps74 Try.results74 rfl ?_
    simp (disch := omega)
    exact ret_of (h _ _ (Sub.refl M))
  | c :: p, w, V, v, M, R, hp, hp8, hl, hV, hv, h => by
    rw [List.all_cons, Bool.and_eq_true] at hp
    have hc := isV_range hp.1
    have h3 := strs_take3 hV.1
    have h3' := hV.1
    have hk : ((c.toNat : Int) - 65).toNat = vIdx c := by unfold vIdx; omega
    have hk3 : vIdx c < 3 := by unfold vIdx; omega
    have hgv := val_get hV.1 hk3
    have hsm := small_get hV (vIdx c)
    have hlen := fitB_len (c :: p) w V
    have hold := fitB_old (w := w) (p := p) (V := V) (c := c)
    have hnew := fitB_new (w := w) (p := p) (V := V) (c := c)
    rw [List.length_cons] at hp8 hlen
    obtain ⟨own, hown⟩ : ∃ own, own = V.getD (vIdx c) [] := ⟨_, rfl⟩
    rw [← hown] at hgv hsm hold hnew
    obtain ⟨k, hkk⟩ : ∃ k, k = vIdx c := ⟨_, rfl⟩
    rw [← hkk] at hk hk3 hgv hnew hown
    obtain ⟨a, cc, rfl, ha⟩ := hv.opened
    rw [strs_length, h3'] at ha hv ⊢
    rcases ha with h0 | ⟨b, o, rfl, ha⟩
    · omega
    have hg := ha k hk3
    rw [hgv] at hg
    refine does_fn tab_ok Try.func74 rfl (by kernel_rfl) (by kernel_rfl) Try.ntmps74 Try.results74 rfl ?_
    simp (disch := omega)
    by_cases hsh : w.length < p.length + 1
    · have hno : fitB (c :: p) w V = false := by
        cases hf : fitB (c :: p) w V with
        | false => rfl
        | true => have := hlen hf; omega
      rw [hno] at h
      simp (disch := omega)
      exact ret_of (h _ _ (Sub.refl M))
    · simp (disch := omega) [hk, hg]
      by_cases h0 : own = []
      · rw [hnew h0, fitN_low] at h
        subst h0
        have hs0 := Sub.refl M
        simp (disch := omega)
        refine loop_to tab_ok [6, 7, 10, 11, 12, 13, 56, 57, 58, 59, 60, 61, 62, 63, 64, 65, 66, 67, 68, 69, 70, 71, 72, 73, 74, 75, 76, 77, 78, 79, 80, 81, 82, 83, 84, 85, 86] (fun n : Nat => [(10, .int .i64 ((n : Int) + 1))]) (fun n M' => Sub M M' ∧ n ≤ w.length - p.length ∧ fitN p w V k n = false) (fun n => w.length - p.length - n) 0 (by kernel_rfl) (by simp (disch := omega)) ⟨Sub.refl M, by omega, rfl⟩ ?_
        rintro n M' g ⟨hs, hn, hno⟩
        have hsucc := fitN_succ p w V k n
        by_cases hlt : n < w.length - p.length
        · simp (disch := omega)
          intro bn hbn
          have hsrc : (M'.put bn (.cells true [] 0)).sub? b o 3 = some (strs V) := rd_src ((hv.sub hs).put hbn (.cells true [] 0)) (by rw [strs_length, h3']; decide)
          simp (disch := omega) [hsrc, h3']
          refine ⟨flat_strs V, ?_⟩
          intro b1 c1 hM hc1
          rw [strs_length, h3'] at hc1
          have k1 : (M'.put b1 (.cells true (strs V) c1)) b1 = some (.cells true (strs V) c1) := put_same _ _ _
          have e1 : ((n : Int) + 1).toNat = n + 1 := by omega
          have hV' : Small3 (V.set k (w.take (n + 1))) := small_set hV (by rw [List.length_take]; omega)
          have s2 : Sub M' (M'.put b1 (.cells true (strs (V.set k (w.take (n + 1)))) c1)) := (Sub.refl M').putN hM _
          have r2 : Rd (M'.put b1 (.cells true (strs (V.set k (w.take (n + 1)))) c1)) (.slice (some ⟨b1, 0, none⟩) 3 c1) (strs (V.set k (w.take (n + 1)))) := Rd.new (by rw [strs_length]; exact hV'.1) hc1
          simp (disch := omega) [hk, k1, strs_set, e1, h3']
          generalize M'.put b1 (.cells true (strs (V.set k (w.take (n + 1)))) c1) = N2 at *
          refine draws [0, 1, 2, 3, 4, 5, 6, 7, 8, 9, 10, 11] [0, 0, 0, 0, 0, 0, 1, 0, 0, 0, 0, 0] tab_ok (by kernel_rfl) (by kernel_rfl) (by kernel_rfl) (by rfl) ?_
          simp (disch := omega) [e1, h3']
          refine l10Fit_does p _ _ _ _ _ hp.2 (by omega) (by rw [List.length_drop]; omega) hV' r2 fun v3 M3 s3 => ?_
          simp (disch := omega)
          refine ⟨s3, ?_⟩
          cases hf : fitB p (w.drop (n + 1)) (V.set k (w.take (n + 1)))
          · rw [hno, hf] at hsucc
            simp (disch := omega)
            exact Rnd.mk' (n + 1) (by omega) (by (repeat (first | exact km | refine kp rfl ?_ | refine km' rfl ?_))) (by simp (disch := omega)) ⟨(hs.trans s2).trans s3, by omega, hsucc⟩
          · rw [fitN_yes hlt hf] at h
            simp (disch := omega)
            exact ret_of (h _ _ ((hs.trans s2).trans s3))
        · have hn' : n = w.length - p.length := by omega
          rw [← hn', hno] at h
          simp (disch := omega)
          exact ret_of (h _ _ hs)
      · have he : own.isEmpty = false := by cases own with
          | nil => exact absurd rfl h0
          | cons a l => rfl
        rw [hold h0] at h
        by_cases hlo : w.length < own.length
        · rw [prefix_no hlo, Bool.false_and] at h
          have hlo' : (w.length : Int) < own.length := by omega
          simp (disch := omega) [he, hlo, hlo']
          exact ret_of (h _ _ (Sub.refl M))
        · have hlo' : ¬ (w.length : Int) < own.length := by omega
          have hpb := prefix_beq w own (by omega)
          cases hpre : own.isPrefixOf w
          · rw [hpre, Bool.false_and] at h
            rw [hpre] at hpb
            simp (disch := omega) [he, hlo, hlo', hpb]
            exact ret_of (h _ _ (Sub.refl M))
          · rw [hpre, Bool.true_and] at h
            rw [hpre] at hpb
            simp (disch := omega) [he, hlo, hlo', hpb]
            refine draws [0, 1, 2, 3, 4, 5, 6, 7, 8, 9, 10, 11] [0, 0, 0, 0, 0, 0, 0, 1, 0, 0, 0, 0] tab_ok (by kernel_rfl) (by kernel_rfl) (by kernel_rfl) (by rfl) ?_
            simp (disch := omega)
            refine l10Fit_does p _ V _ _ _ hp.2 (by omega) (by rw [List.length_drop]; omega) hV hv fun v' M' hs => ?_
            simp (disch := omega)
            exact ⟨hs, ret_of (h _ _ hs)⟩
theorem l10Fits_does (w p : List UInt8) (M : Mem) (R : Value → Mem → Prop) (hl : w.length ≤ 60) (hp : isPat p = true) (h : R (.bool (fitsB w p)) M) : Does Try.prog 65 [str w, str p] M R := by
  obtain ⟨hp1, hp8, hpv⟩ := isPat_in hp
  refine does_fn tab_ok Try.func65 rfl (by kernel_rfl) (by kernel_rfl) Try.ntmps65 Try.results65 rfl ?_
  simp (disch := omega)
  intro b hb
  simp (disch := omega)
  refine l10Fit_does p w V0 _ _ _ hpv hp8 hl small0 (Rd.new rfl (Nat.le_refl 3)) fun v' M' hs => ?_
  simp (disch := omega)
  exact ret_sub (((Sub.refl M).put hb _).trans hs) h
theorem l10Ends_does (w p : List UInt8) (M : Mem) (R : Value → Mem → Prop) (hl : w.length ≤ 60) (hp : isPat p = true) (h : R (.bool (endsP w p)) M) : Does Try.prog 53 [str w, str p] M R := by
  obtain ⟨hp1, hp8, hpv⟩ := isPat_in hp
  rw [endsP_low w p hp1] at h
  obtain ⟨m, hm⟩ : ∃ m, m = w.length + 1 - p.length := ⟨_, rfl⟩
  rw [← hm] at h
  refine does_fn tab_ok Try.func53 rfl (by kernel_rfl) (by kernel_rfl) Try.ntmps53 Try.results53 rfl ?_
  simp (disch := omega)
  refine loop_to tab_ok [4, 5, 11, 12, 13, 14, 15, 16, 17, 18, 19] (fun i : Int => [(5, .int .i64 i)]) (fun i M' => M' = M ∧ -8 ≤ i ∧ i ≤ (w.length : Int) - p.length ∧ i < 60 ∧ endsUp w p i m = false) (fun i => (i + 9).toNat) ((w.length : Int) - p.length) (by kernel_rfl) (by simp (disch := omega)) ⟨rfl, by omega, by omega, by omega, ?_⟩ ?_
  · rcases Nat.lt_or_ge w.length p.length with hh | hh
    · rw [hm, show w.length + 1 - p.length = 0 by omega]; rfl
    · exact endsUp_top (by omega)
  rintro i M' g ⟨rfl, hi8, hi, hi60, hno⟩
  by_cases hlt : 0 ≤ i
  · obtain ⟨i, rfl⟩ : ∃ n : Nat, i = n := ⟨i.toNat, by omega⟩
    have hs := endsUp_step w p (i := i) (m := m) (by omega)
    simp (disch := omega)
    refine l10Fits_does _ _ _ _ (by rw [List.length_drop]; omega) hp ?_
    cases hf : fitsB (w.drop i) p
    · rw [hno, hf] at hs
      simp (disch := omega)
      exact Rnd.mk' ((i : Int) - 1) (by omega) (by (repeat (first | exact km | refine kp rfl ?_ | refine km' rfl ?_))) (by simp (disch := omega)) ⟨rfl, by omega, by omega, by omega, hs⟩
    · rw [show (List.range m).any (fun i => fitsB (w.drop i) p) = true from List.any_eq_true.2 ⟨i, List.mem_range.2 (by omega), hf⟩] at h
      simp (disch := omega)
      exact ret_of h
  · rw [endsUp_all (by omega)] at hno
    rw [hno] at h
    simp (disch := omega) [hlt]
    exact ret_of h
def hdL (l : List (List UInt8)) : List UInt8 := l.headD []
def emL (l : List (List UInt8)) : Bool := l.isEmpty
theorem emL_iff {l : List (List UInt8)} (h : emL l = true) : l = [] := List.isEmpty_iff.1 h
def firstV (l : List (List UInt8)) : Value := .tuple #[str (hdL l), .bool (!emL l)]
theorem headD_append {l r : List (List UInt8)} (h : emL l = false) : firstV (l ++ r) = firstV l := by
  cases l with
  | nil => cases h
  | cons a l => rfl
theorem l10First_does (p : List UInt8) (k : Nat) (hp : isPat p = true) (hk : k ≤ 5) : ∀ (d : Nat) (w : List UInt8) (M : Mem) (R : Value → Mem → Prop), w.length + d ≤ 60 → R (firstV (avL p k d w)) M → Does Try.prog 42 [str w, str p, .int .i64 k, .int .i64 d] M R
  | 0, w, M, R, hd, h => by
    unfold avL at h
    refine does_fn tab_ok Try.func42 rfl (by kernel_rfl) (by kernel_rfl) Try.ntmps42 Try.results42 rfl ?_
    simp (disch := omega)
    exact ret_of h
  | d + 1, w, M, R, hd, h => by
    refine does_fn tab_ok Try.func42 rfl (by kernel_rfl) (by kernel_rfl) Try.ntmps42 Try.results42 rfl ?_
    have hb : (((d : Int) + 1) == 0) = false := beq_eq_false_iff_ne.2 (by omega)
    simp (disch := omega) [hb]
    refine loop_to tab_ok [8, 9, 10, 11, 12, 13, 17, 18, 19, 20, 21, 22, 23, 24, 25, 26, 27, 28, 29, 30, 31, 32, 33, 34, 35, 36, 37, 38, 39] (fun i : Nat => [(10, .int .i64 i)]) (fun i M' => M' = M ∧ i ≤ k ∧ emL (avN p k d w i) = true) (fun i => k - i) 0 (by kernel_rfl) (by simp (disch := omega)) ⟨rfl, by omega, rfl⟩ ?_
    rintro i M' g ⟨rfl, hi, hno⟩
    have hs := avN_succ p k d w i
    have hnil : avN p k d w i = [] := emL_iff hno
    rw [hnil, List.nil_append] at hs
    by_cases hlt : i < k
    · simp (disch := omega)
      refine l01Letter_does i _ _ (by omega) ?_
      simp (disch := omega)
      have hl' : (w ++ [ltr i]).length = w.length + 1 := by simp
      refine l10Ends_does _ p _ _ (by omega) hp ?_
      unfold avS at hs
      cases he : endsP (w ++ [ltr i]) p
      · rw [he, if_neg (by decide)] at hs
        simp (disch := omega)
        refine l10First_does p k hp hk d _ _ _ (by omega) ?_
        rw [← hs]
        cases hr : emL (avN p k d w (i + 1))
        · obtain ⟨rest, hrest⟩ := avL_split p k d w (i := i + 1) (by omega)
          rw [hrest, headD_append hr] at h
          unfold firstV at h ⊢
          rw [hr] at h ⊢
          simp (disch := omega)
          exact ret_of h
        · unfold firstV
          rw [hr]
          simp (disch := omega)
          exact Rnd.mk' (i + 1) (by omega) (by (repeat (first | exact km | refine kp rfl ?_ | refine km' rfl ?_))) (by simp (disch := omega)) ⟨rfl, by omega, hr⟩
      · rw [he, if_pos rfl] at hs
        simp (disch := omega)
        exact Rnd.mk' (i + 1) (by omega) (by (repeat (first | exact km | refine kp rfl ?_ | refine km' rfl ?_))) (by simp (disch := omega)) ⟨rfl, by omega, by rw [hs]; rfl⟩
    · have hi' : i = k := by omega
      rw [hi'] at hnil
      rw [avL_all, hnil] at h
      simp (disch := omega)
      exact ret_of h
theorem impl_LongestAvoiding (p : List UInt8) (k : Int) (M : Mem) (R : Value → Mem → Prop) (hl : p.length ≤ 1099511627776) (h : R (tup2 (.int .i64 (longT p k)) (longC p k)) M) : Does Try.prog 15 [str p, .int .i64 k] M R := by
  refine does_fn tab_ok Try.func15 rfl (by kernel_rfl) (by kernel_rfl) Try.ntmps15 Try.results15 rfl ?_
  simp (disch := omega)
  refine within_does k 1 2 _ _ ?_
  obtain ⟨b, hb⟩ : ∃ b, b = decide (1 ≤ k ∧ k ≤ 2) := ⟨_, rfl⟩
  rw [← hb]
  simp (disch := omega)
  refine avoidCode_does p _ _ _ hl ?_
  unfold longT longC at h
  cases hp : isPat p
  · rw [hp] at h
    simp (disch := omega)
    exact ret_of h
  · rw [hp, Bool.true_and, if_pos rfl] at h
    by_cases hk : 1 ≤ k ∧ k ≤ 2
    · rw [decide_eq_true hk, if_pos rfl, if_pos hk] at h
      rw [decide_eq_true hk] at hb
      subst hb
      obtain ⟨k, rfl⟩ : ∃ n : Nat, k = n := ⟨k.toNat, by omega⟩
      rw [Int.toNat_natCast] at h
      obtain ⟨tg, htg⟩ : ∃ tg, tg = longF p k 11 0 := ⟨_, rfl⟩
      rw [← htg] at h
      simp (disch := omega) [hk]
      refine loop_to tab_ok [4, 5, 7, 15, 16, 17, 18, 19, 20, 21, 22, 23] (fun n : Nat => [(7, .int .i64 n)]) (fun n M' => M' = M ∧ n ≤ 10 ∧ longF p k (11 - n) n = tg) (fun n => 11 - n) 0 (by kernel_rfl) (by simp (disch := omega)) ⟨rfl, by omega, htg.symm⟩ ?_
      rintro n M' g ⟨rfl, hn, hf⟩
      rw [show 11 - n = (10 - n) + 1 by omega] at hf
      unfold longF at hf
      simp (disch := omega)
      refine avoiding_does (S := Unit) p k (n + 1) hp (by omega) (by omega) _ (say fun _ => true) (fun _ M2 => M2 = M') ?_ (n + 1) [] () _ _ (by simp) rfl ?_
      · rintro ⟨⟩ w K R' hw rfl hR
        simp (disch := omega)
        refine does_fn tab_ok Try.func45 rfl (by kernel_rfl) (by kernel_rfl) Try.ntmps45 Try.results45 rfl ?_
        simp (disch := omega)
        exact ret_of (hR _ rfl)
      · rintro M2 rfl
        rw [runS_say]
        have e : (avL p k (n + 1) []).any (fun _ => true) = hasAv p k (n + 1) := by
          unfold hasAv
          cases avL p k (n + 1) [] <;> simp
        rw [e]
        cases ha : hasAv p k (n + 1)
        · rw [ha, if_neg (by decide)] at hf
          rw [← hf] at h
          simp (disch := omega)
          exact ret_of h
        · rw [ha, if_pos rfl] at hf
          by_cases h10 : n = 10
          · subst h10
            unfold longF at hf
            rw [← hf] at h
            simp (disch := omega)
            exact ret_of h
          · have h10' : ¬ (10 : Int) < (n : Int) + 1 := by omega
            simp (disch := omega) [h10']
            exact Rnd.mk' (n + 1) (by omega) (by (repeat (first | exact km | refine kp rfl ?_ | refine km' rfl ?_))) (by simp (disch := omega)) ⟨rfl, by omega, by rw [show 11 - (n + 1) = 10 - n by omega]; exact hf⟩
    · rw [decide_eq_false hk, if_neg (by decide), if_neg hk] at h
      rw [decide_eq_false hk] at hb
      subst hb
      simp (disch := omega)
      exact ret_of h
theorem spec_LongestAvoiding (p : List UInt8) (k : Int) (M : Mem) (R : Value → Mem → Prop) (hl : p.length ≤ 1099511627776) (h : R (tup2 (.int .i64 (longT p k)) (longC p k)) M) : Does Try.prog 16 [str p, .int .i64 k] M R := by
  refine does_fn tab_ok Try.func16 rfl (by kernel_rfl) (by kernel_rfl) Try.ntmps16 Try.results16 rfl ?_
  simp (disch := omega)
  refine l10Sizes_does p k 2 0 0 _ _ hl ?_
  rw [show decide ((0 : Int) ≤ 0 ∧ (0 : Int) ≤ 0) = true from rfl, Bool.and_true]
  obtain ⟨b, hb⟩ : ∃ b, b = decide (1 ≤ k ∧ k ≤ 2) := ⟨_, rfl⟩
  rw [← hb]
  unfold longT longC at h
  cases hp : isPat p
  · rw [hp] at h
    simp (disch := omega)
    exact ret_of h
  · rw [hp, Bool.true_and, if_pos rfl] at h
    by_cases hk : 1 ≤ k ∧ k ≤ 2
    · rw [decide_eq_true hk, if_pos rfl, if_pos hk] at h
      rw [decide_eq_true hk] at hb
      subst hb
      obtain ⟨k, rfl⟩ : ∃ n : Nat, k = n := ⟨k.toNat, by omega⟩
      rw [Int.toNat_natCast] at h
      obtain ⟨tg, htg⟩ : ∃ tg, tg = longF p k 11 0 := ⟨_, rfl⟩
      rw [← htg] at h
      simp (disch := omega) [hk]
      refine loop_to tab_ok [4, 5, 7, 8, 9, 16, 17, 18, 19, 20, 21, 22, 23, 24, 25, 26, 27, 28, 29, 30] (fun n : Nat => [(7, .int .i64 ((n : Int) + 1))]) (fun n M' => M' = M ∧ n ≤ 11 ∧ longF p k (11 - n) n = tg) (fun n => 12 - n) 0 (by kernel_rfl) (by simp (disch := omega)) ⟨rfl, by omega, htg.symm⟩ ?_
      rintro n M' g ⟨rfl, hn, hf⟩
      by_cases hlt : n < 11
      · rw [show 11 - n = (10 - n) + 1 by omega] at hf
        unfold longF at hf
        have e1 : ((n : Int) + 1) = ((n + 1 : Nat) : Int) := by push_cast; rfl
        simp (disch := omega)
        rw [e1]
        refine l10First_does p k hp (by omega) (n + 1) [] _ _ (by simp; omega) ?_
        unfold firstV
        rw [show (!emL (avL p k (n + 1) [])) = hasAv p k (n + 1) from rfl]
        cases ha : hasAv p k (n + 1)
        · rw [ha, if_neg (by decide)] at hf
          rw [← hf] at h
          simp (disch := omega)
          exact ret_of h
        · rw [ha, if_pos rfl] at hf
          simp (disch := omega)
          exact Rnd.mk' (n + 1) (by omega) (by (repeat (first | exact km | refine kp rfl ?_ | refine km' rfl ?_))) (by simp (disch := omega)) ⟨rfl, by omega, by rw [show 11 - (n + 1) = 10 - n by omega]; exact hf⟩
      · have hn' : n = 11 := by omega
        subst hn'
        unfold longF at hf
        rw [← hf] at h
        simp (disch := omega)
        exact ret_of h
    · rw [decide_eq_false hk, if_neg (by decide), if_neg hk] at h
      rw [decide_eq_false hk] at hb
      subst hb
      simp (disch := omega)
      exact ret_of h
end Go.Proofs.Yticejlplbibegaa

/- Contracts: places of words; lists of words compared; factors of a length, of the reference; factors at places, of the reference. -/
import Derived.Test.YticejlplbibegaaGreatM21
import Derived.Test.YticejlplbibegaaGreatC62
import Derived.Test.YticejlplbibegaaGreatC21
import Derived.Test.YticejlplbibegaaGreatC20
namespace Go.Proofs.YticejlplbibegaaGreat
open Go Go.RowKit
set_option linter.unusedSimpArgs false
set_option linter.unusedVariables false

def numsI (l : List Nat) : List Int := l.map fun n : Nat => (n : Int)
theorem numsI_len (l : List Nat) : (numsI l).length = l.length := List.length_map _
theorem numsI_snoc (l : List Nat) (n : Nat) : numsI (l ++ [n]) = numsI l ++ [(n : Int)] := by simp [numsI]
theorem words5_does (v v' : Value) (xs ys : List (List UInt8)) (M : Mem) (R : Value → Mem → Prop) (hx : Rd M v (strs xs)) (hy : Rd M v' (strs ys)) (hl : xs.length ≤ 1099511627776) (hl' : ys.length ≤ 1099511627776)
    (h : R (.bool (xs == ys)) M) : Does Tryz.prog 14 [v, v'] M R := by
  refine does_fn tab_ok Tryz.func14 rfl (by kernel_rfl) (by kernel_rfl) Tryz.ntmps14 Tryz.results14 rfl ?_
  obtain ⟨a, c, rfl, ha⟩ := hx.opened
  obtain ⟨a', c', rfl, ha'⟩ := hy.opened
  rw [strs_length] at ha ha' ⊢
  rw [strs_length]
  by_cases hne : xs.length = ys.length
  · simp (disch := omega) [hne]
    refine loop_to tab_ok [4, 5, 11, 12, 13, 14, 15, 16, 17, 18, 19, 20, 21, 22, 23, 24, 25] (fun i : Nat => [(5, .int .i64 i)]) (fun i M' => M' = M ∧ i ≤ xs.length ∧ xs.take i = ys.take i) (fun i => xs.length - i) 0 (by kernel_rfl) (by simp (disch := omega)) ⟨rfl, by omega, rfl⟩ ?_
    rintro i M' g ⟨rfl, hi, he⟩
    by_cases hlt : i < xs.length
    · rcases ha with h0 | ⟨b, o, rfl, hs⟩
      · omega
      rcases ha' with h0 | ⟨b', o', rfl, hs'⟩
      · omega
      have hlt' : i < ys.length := by omega
      have hg := hs i hlt
      have hg' := hs' i hlt'
      have hx : xs[i]? = some xs[i] := List.getElem?_eq_getElem hlt
      have hy : ys[i]? = some ys[i] := List.getElem?_eq_getElem hlt'
      simp (disch := omega) [hne]
      refine draw_to tab_ok (by kernel_rfl) (by kernel_rfl) (by rfl) ?_
      simp (disch := omega) [hg, hg', hx, hy]
      by_cases hq : xs[i] = ys[i]
      · have hq' : (xs[i] == ys[i]) = true := by rw [hq]; exact beq_self_eq_true _
        simp (disch := omega) [hq']
        refine Rnd.mk' (i + 1) (by omega) (by (repeat (first | exact km | refine kp rfl ?_ | refine km' rfl ?_))) (by simp (disch := omega)) ⟨rfl, by omega, ?_⟩
        rw [take_snoc xs hlt, take_snoc ys hlt', he, hq]
      · have hq' : (xs[i] == ys[i]) = false := beq_eq_false_iff_ne.2 hq
        simp (disch := omega) [hq']
        refine ret_of ?_
        have : (xs == ys) = false := by
          rw [beq_eq_false_iff_ne]; rintro rfl; exact hq rfl
        rw [this] at h; exact h
    · have hi' : i = xs.length := by omega
      subst hi'
      simp (disch := omega) [hne]
      refine ret_of ?_
      have : xs = ys := take_beq hne he
      subst this
      simpa using h
  · simp (disch := omega) [hne]
    refine ret_of ?_
    have : (xs == ys) = false := by
      rw [beq_eq_false_iff_ne]; rintro rfl; exact hne rfl
    rw [this] at h; exact h
theorem places_does (w u : List UInt8) (M : Mem) (R : Value → Mem → Prop) (hw : w.length ≤ 60) (hu : u.length ≤ 60) (h : ∀ v M', Own M v (ints (numsI (plcL w u))) M' → R v M') : Does Tryz.prog 107 [str w, str u] M R := by
  refine does_fn tab_ok Tryz.func107 rfl (by kernel_rfl) (by kernel_rfl) Tryz.ntmps107 Tryz.results107 rfl ?_
  simp (disch := omega)
  refine loop_to tab_ok [5, 6, 10, 11, 12, 13, 14, 15, 16, 17, 18, 19, 20, 21, 22] (fun x : Nat × Value => [(10, .int .i64 x.1), (5, x.2)]) (fun x M' => x.1 ≤ w.length + 1 ∧ Own M x.2 (ints (numsI (plcN w u x.1))) M') (fun x => w.length + 1 - x.1) (0, .slice none 0 0) (by kernel_rfl) (by simp (disch := omega)) ⟨by omega, Own.nil _⟩ ?_
  rintro ⟨i, v⟩ M' g ⟨hi, ho⟩
  simp only at hi ho
  have hln := plcN_len w u i
  have hsu := plcN_succ w u i
  by_cases hlt : i < w.length + 1
  · have hlt' : (i : Int) < (w.length : Int) + 1 := by omega
    simp (disch := omega) [hlt']
    refine hasPrefix_does _ _ _ _ (by rw [List.length_drop]; omega) (by omega) ?_
    cases hp : u.isPrefixOf (w.drop i)
    · rw [hp, if_neg (by decide), List.append_nil] at hsu
      simp (disch := omega)
      exact Rnd.mk' (i + 1, v) (by simp only; omega) (by (repeat (first | exact km | refine kp rfl ?_ | refine km' rfl ?_))) (by simp (disch := omega)) ⟨by simp only; omega, by simp only; rw [hsu]; exact ho⟩
    · rw [hp, if_pos rfl] at hsu
      generalize plcN w u i = L at *
      simp (disch := omega)
      intro b' hb'
      simp (disch := omega)
      refine app_own ho ((Sub.refl _).put hb' _) (by simp (disch := omega); rfl) rfl rfl (by omega) (by simp (disch := omega)) (by simp (disch := omega) [numsI_len]; omega) ?_
      intro v' M'' N'' ho' hs'
      simp (disch := omega)
      refine Rnd.mk'' M'' (i + 1, v') hs' (by simp only; omega) (by (repeat (first | exact km | refine kp rfl ?_ | refine km' rfl ?_))) (by simp (disch := omega)) ⟨by simp only; omega, ?_⟩
      simp only
      rw [hsu, numsI_snoc, ← ints_snoc]
      exact ho'
  · have hi' : i = w.length + 1 := by omega
    have hlt' : ¬ (i : Int) < (w.length : Int) + 1 := by omega
    subst hi'
    simp (disch := omega)
    exact ret_of (h v M' ho)
theorem l01Places_does (w u : List UInt8) (M : Mem) (R : Value → Mem → Prop) (hw : w.length ≤ 60) (hu : u.length ≤ 60) (h : ∀ v M', Own M v (ints (numsI (plcL w u))) M' → R v M') : Does Tryz.prog 108 [str w, str u] M R := by
  refine does_fn tab_ok Tryz.func108 rfl (by kernel_rfl) (by kernel_rfl) Tryz.ntmps108 Tryz.results108 rfl ?_
  simp (disch := omega)
  intro b0 hb0
  simp (disch := omega)
  refine loop_to tab_ok [5, 6, 8, 9, 10, 11, 12, 13, 14, 15, 16, 17, 18, 19, 20, 21, 22, 23, 24, 25, 26, 27, 28, 29] (fun x : Nat × Value => [(6, .int .i64 x.1), (5, x.2)]) (fun x M' => x.1 ≤ w.length + 1 ∧ Own M x.2 (ints (numsI (plcN w u x.1))) M') (fun x => w.length + 1 - x.1) (0, .slice (some ⟨b0, 0, none⟩) 0 0) (by kernel_rfl) (by simp (disch := omega)) ⟨by omega, Own.new hb0 rfl (Nat.le_refl 0)⟩ ?_
  rintro ⟨i, v⟩ M' g ⟨hi, ho⟩
  simp only at hi ho
  have hln := plcN_len w u i
  have hsu := plcN_succ w u i
  by_cases hlt : i + u.length ≤ w.length
  · have hsg := seg_int (w := w) (a := i) (m := u.length)
    have hpb : (seg w i u.length == u) = u.isPrefixOf (w.drop i) := by
      rw [← prefix_beq (w.drop i) u (by rw [List.length_drop]; omega)]
      unfold seg
      rw [List.drop_take, Nat.add_sub_cancel_left]
    simp (disch := omega) [hsg, hpb]
    cases hp : u.isPrefixOf (w.drop i)
    · rw [hp, if_neg (by decide), List.append_nil] at hsu
      simp (disch := omega)
      exact Rnd.mk' (i + 1, v) (by simp only; omega) (by (repeat (first | exact km | refine kp rfl ?_ | refine km' rfl ?_))) (by simp (disch := omega)) ⟨by simp only; omega, by simp only; rw [hsu]; exact ho⟩
    · rw [hp, if_pos rfl] at hsu
      generalize plcN w u i = L at *
      simp (disch := omega)
      intro b' hb'
      simp (disch := omega)
      refine app_own ho ((Sub.refl _).put hb' _) (by simp (disch := omega); rfl) rfl rfl (by omega) (by simp (disch := omega)) (by simp (disch := omega) [numsI_len]; omega) ?_
      intro v' M'' N'' ho' hs'
      simp (disch := omega)
      refine Rnd.mk'' M'' (i + 1, v') hs' (by simp only; omega) (by (repeat (first | exact km | refine kp rfl ?_ | refine km' rfl ?_))) (by simp (disch := omega)) ⟨by simp only; omega, ?_⟩
      simp only
      rw [hsu, numsI_snoc, ← ints_snoc]
      exact ho'
  · rw [plcL_low (n := i) (by omega) hi] at h
    simp (disch := omega)
    exact ret_of (h v M' ho)
theorem impl_PlacesOf (w u : List UInt8) (M : Mem) (R : Value → Mem → Prop) (hw : w.length ≤ 1099511627776) (hu : u.length ≤ 1099511627776) (h : ∀ v M', Own M v (ints (if isWord w && isWord u then numsI (plcL w u) else [])) M' → R (tup2 v (twoC w u)) M') : Does Tryz.prog 31 [str w, str u] M R := by
  unfold tup2 at h
  refine does_fn tab_ok Tryz.func31 rfl (by kernel_rfl) (by kernel_rfl) Tryz.ntmps31 Tryz.results31 rfl ?_
  simp (disch := omega)
  intro b1 hb1
  simp (disch := omega)
  have hs1 : Sub M (M.put b1 (.cells true [str w, str u] 2)) := (Sub.refl _).put hb1 _
  refine wordCode_does _ _ [w, u] true (fun _ => True) _ _ (Rd.new rfl (Nat.le_refl 2)) (fine2w hw hu) (by simp) trivial stab_true (always_tells _) ?_
  rw [codeOf2]
  unfold twoC at h ⊢
  cases hb : isWord w && isWord u
  · rw [hb] at h
    simp (disch := omega)
    exact ret_sub hs1 (h _ _ (Own.nil _))
  · rw [hb, if_pos rfl, if_pos rfl] at h
    rw [Bool.and_eq_true] at hb
    simp (disch := omega)
    refine places_does w u _ _ (isWord_len hb.1) (isWord_len hb.2) ?_
    intro v M' o
    obtain ⟨M2, o2, z2⟩ := o.base hs1
    simp (disch := omega)
    exact ret_sub z2 (h v M2 o2)
theorem spec_PlacesOf (w u : List UInt8) (M : Mem) (R : Value → Mem → Prop) (hw : w.length ≤ 1099511627776) (hu : u.length ≤ 1099511627776) (h : ∀ v M', Own M v (ints (if isWord w && isWord u then numsI (plcL w u) else [])) M' → R (tup2 v (twoC w u)) M') : Does Tryz.prog 32 [str w, str u] M R := by
  unfold tup2 twoC at h
  refine does_fn tab_ok Tryz.func32 rfl (by kernel_rfl) (by kernel_rfl) Tryz.ntmps32 Tryz.results32 rfl ?_
  simp (disch := omega)
  refine l01Is_does w _ _ hw ?_
  cases h1 : isWord w
  · rw [h1] at h
    simp (disch := omega)
    exact ret_of (h _ _ (Own.nil _))
  · rw [h1, Bool.true_and] at h
    simp (disch := omega)
    refine l01Is_does u _ _ hu ?_
    cases h2 : isWord u
    · rw [h2] at h
      simp (disch := omega)
      exact ret_of (h _ _ (Own.nil _))
    · rw [h2, if_pos rfl, if_pos rfl] at h
      simp (disch := omega)
      refine l01Places_does w u _ _ (isWord_len h1) (isWord_len h2) ?_
      intro v M' o
      simp (disch := omega)
      exact ret_of (h v M' o)
theorem spec_FactorAt (w : List UInt8) (i m : Int) (M : Mem) (R : Value → Mem → Prop) (hl : w.length ≤ 1099511627776) (hi : -9223372036854775808 ≤ i ∧ i ≤ 9223372036854775807) (hm : -9223372036854775808 ≤ m ∧ m ≤ 9223372036854775807) (h : R (tup2 (str (facT w i m)) (facC w i m)) M) : Does Tryz.prog 43 [str w, .int .i64 i, .int .i64 m] M R := by
  unfold tup2 facT facC at h
  refine does_fn tab_ok Tryz.func43 rfl (by kernel_rfl) (by kernel_rfl) Tryz.ntmps43 Tryz.results43 rfl ?_
  simp (disch := omega)
  refine l01Is_does w _ _ hl ?_
  cases hw : isWord w
  · rw [hw] at h
    simp (disch := omega)
    exact ret_of h
  · have h60 := isWord_len hw
    rw [hw, if_pos rfl, if_pos rfl] at h
    unfold facOk at h
    simp (disch := omega)
    refine l01In_does _ _ _ _ _ ?_
    by_cases h1 : 0 ≤ i ∧ i ≤ (w.length : Int)
    · rw [decide_eq_true h1, Bool.true_and] at h
      rw [decide_eq_true h1]
      simp (disch := omega)
      refine l01In_does _ _ _ _ _ ?_
      by_cases h2 : 0 ≤ m ∧ m ≤ (w.length : Int) - i
      · rw [decide_eq_true h2, if_pos rfl, if_pos rfl] at h
        rw [decide_eq_true h2]
        obtain ⟨i, rfl⟩ : ∃ j : Nat, i = j := ⟨i.toNat, by omega⟩
        obtain ⟨m, rfl⟩ : ∃ j : Nat, m = j := ⟨m.toNat, by omega⟩
        have hsg := seg_int (w := w) (a := i) (m := m)
        rw [Int.toNat_natCast, Int.toNat_natCast] at h
        simp (disch := omega)
        rw [hsg]
        exact ret_of h
      · rw [decide_eq_false h2] at h
        rw [decide_eq_false h2]
        simp (disch := omega)
        exact ret_of h
    · rw [decide_eq_false h1, Bool.false_and] at h
      rw [decide_eq_false h1]
      simp (disch := omega)
      exact ret_of h
theorem sub_keep {M N : Mem} {b o n : Nat} {xs : List Value} (h : M.sub? b o n = some xs) (hs : Sub M N) : N.sub? b o n = some xs := by
  unfold Mem.sub? at *
  split at h
  · rename_i own ys tot hb
    rw [hs _ _ hb]
    exact h
  · cases h
theorem strs_take8 (L : List (List UInt8)) (n : Nat) : strs (L.take n) = (strs L).take n := by simp [strs, List.map_take]
theorem strs_drop8 (L : List (List UInt8)) (n : Nat) : strs (L.drop n) = (strs L).drop n := by simp [strs, List.map_drop]
/-- A slice of a block that is told, of these elements. -/
def RdN (M : Mem) (v : Value) (xs : List Value) : Prop := ∃ b o c, v = .slice (some ⟨b, o, none⟩) xs.length c ∧ M.sub? b o xs.length = some xs ∧ xs.length ≤ c
theorem RdN.rd {M : Mem} {v : Value} {xs : List Value} (h : RdN M v xs) : Rd M v xs := let ⟨b, o, c, h1, h2, h3⟩ := h; .inr ⟨b, o, c, h1, h2, h3⟩
theorem RdN.of {M : Mem} {v : Value} {xs : List Value} (h : Rd M v xs) (hne : xs ≠ []) : RdN M v xs := by
  rcases h with ⟨_, _, _, h2⟩ | ⟨b, o, c, h1, h2, h3⟩
  · exact absurd h2 hne
  · exact ⟨b, o, c, h1, h2, h3⟩
theorem RdN.sub {M N : Mem} {v : Value} {xs : List Value} (h : RdN M v xs) (hs : Sub M N) : RdN N v xs := by
  obtain ⟨b, o, c, h1, h2, h3⟩ := h
  exact ⟨b, o, c, h1, sub_keep h2 hs, h3⟩
theorem sub_taken {M : Mem} {b o k n : Nat} {xs : List Value} (h : M.sub? b o k = some xs) (hn : n ≤ k) : M.sub? b o n = some (xs.take n) := by
  unfold Mem.sub? at *
  split at h
  · rename_i own ys tot hb
    split at h
    · rename_i hle
      injection h with h
      rw [if_pos (by omega), ← h, List.take_take, Nat.min_eq_left hn]
    · cases h
  · cases h
theorem sub_dropped {M : Mem} {b o k n c : Nat} {xs : List Value} (h : M.sub? b o k = some xs) (hn : n ≤ k) (hc : k ≤ c) : M.sub? b (offAt o n c 1) (k - n) = some (xs.drop n) := by
  unfold Mem.sub? at *
  split at h
  · rename_i own ys tot hb
    split at h
    · rename_i hle
      injection h with h
      unfold offAt
      by_cases hcn : c = n
      · rw [if_pos hcn, if_pos (by omega), show k - n = 0 by omega, ← h, List.take_zero, List.drop_of_length_le (by rw [List.length_take, List.length_drop]; omega)]
      · rw [if_neg hcn, Nat.mul_one, if_pos (by omega), ← h, List.drop_take, List.drop_drop]
    · cases h
  · cases h
theorem l01Put_does (v : Value) (L : List (List UInt8)) (w : List UInt8) (M : Mem) (R : Value → Mem → Prop) (hv : RdN M v (strs L)) (hl : L.length ≤ 1000000) (h : ∀ v' M', Sub M M' → RdN M' v' (strs (putL L w)) → R v' M') : Does Tryz.prog 128 [v, str w] M R := by
  have hv0 := hv
  obtain ⟨b, o, c, rfl, hsb, hcL⟩ := hv
  rw [strs_length] at hsb hcL hv0 ⊢
  have ha : ∀ i, i < L.length → M.get? b (o + i) = (strs L)[i]? := by
    intro i hi
    have := sub_getN (M := M) (b := b) (o := o) (xs := strs L) (by rw [strs_length]; exact hsb) (i := i) (by rw [strs_length]; exact hi)
    exact this
  refine does_fn tab_ok Tryz.func128 rfl (by kernel_rfl) (by kernel_rfl) Tryz.ntmps128 Tryz.results128 rfl ?_
  simp (disch := omega)
  refine loop_to tab_ok [5, 9, 10, 11, 12, 13, 14, 15, 16, 17, 18, 19, 20, 21] (fun n : Nat => [(5, .int .i64 n)]) (fun n M' => M = M' ∧ n ≤ L.length ∧ posF L w n = posF L w L.length) (fun n => n) L.length (by kernel_rfl) (by simp (disch := omega)) ⟨rfl, Nat.le_refl _, rfl⟩ ?_
  rintro n M' g ⟨rfl, hn, hpos⟩
  have stop : (n = 0 ∨ (0 < n ∧ Op.bytesLess w (L.getD (n - 1) []) = false)) → posF L w L.length = n := by
    intro hs
    rw [← hpos]
    rcases hs with rfl | ⟨h0, hb⟩
    · rfl
    · obtain ⟨q, rfl⟩ : ∃ q, n = q + 1 := ⟨n - 1, by omega⟩
      rw [Nat.add_sub_cancel] at hb
      unfold posF
      rw [hb, if_neg (by decide)]
  have put : ∀ (L1 : List (List UInt8)), L1 = L.take n → ∀ L2 : List (List UInt8), L2 = L.drop n → posF L w L.length = n → ¬ (n ≠ 0 ∧ L.getD (n - 1) [] = w) → putL L w = L1 ++ w :: L2 := by
    rintro _ rfl _ rfl hp hne
    unfold putL
    rw [hp, if_neg hne]
  by_cases h0 : 0 < n
  · obtain ⟨q, rfl⟩ : ∃ q, n = q + 1 := ⟨n - 1, by omega⟩
    have hg := ha q (by omega)
    have hgd : L.getD q [] = L[q]'(by omega) := getD_at (by omega)
    rw [strs_get, List.getElem?_eq_getElem (by omega), Option.map_some] at hg
    rw [Nat.add_sub_cancel] at stop put
    rw [hgd] at stop put
    have hgt : (Op.bytesLess (L[q]'(by omega)) w || (L[q]'(by omega)) == w) = !Op.bytesLess w (L[q]'(by omega)) := by
      rw [Bool.eq_iff_iff, Bool.or_eq_true, bl_iff, beq_iff_eq, Bool.not_eq_true', bl_no]
      constructor
      · rintro (hh | hh)
        · exact List.le_of_lt hh
        · rw [hh]; exact List.le_refl _
      · intro hh
        by_cases e : (L[q]'(by omega)) = w
        · exact .inr e
        · exact .inl (lt_of_le_ne hh e)
    have e1 : ((q + 1 : Nat) : Int) - 1 = q := by omega
    generalize hx : L[q]'(by omega) = x at *
    simp (disch := omega) [hg, hgt]
    cases hb : Op.bytesLess w x
    · simp (disch := omega)
      have hp := stop (.inr ⟨by omega, hb⟩)
      by_cases hxw : x = w
      · have hxb : (x == w) = true := by rw [hxw]; exact beq_self_eq_true _
        simp (disch := omega) [hg, hxb]
        refine ret_of (h _ _ (Sub.refl _) ?_)
        have : putL L w = L := by
          unfold putL
          rw [hp, if_pos ⟨by omega, by rw [Nat.add_sub_cancel, hgd]; exact hxw⟩]
        rw [this]
        exact hv0
      · have hxb : (x == w) = false := beq_eq_false_iff_ne.2 hxw
        have hpt := put _ rfl _ rfl hp (fun hh => hxw hh.2)
        simp (disch := omega) [hg, hxb]
        intro b1 hb1
        have o0 : Own M (.slice (some ⟨b1, 0, none⟩) 0 0) (strs []) (M.put b1 (.cells true [] 0)) := Own.new hb1 rfl (Nat.le_refl 0)
        have s0 := o0.sub
        dsimp only
        generalize M.put b1 (.cells true [] 0) = N0 at *
        generalize Value.slice (some ⟨b1, 0, none⟩) 0 0 = v0 at *
        simp (disch := omega)
        refine app_own (news := strs (L.take (q + 1))) o0 (Sub.refl _) (by
          show Mem.sub? _ b o (q + 1) = _
          rw [strs_take8]; exact sub_keep (sub_taken hsb hn) s0) rfl rfl (by omega) (flat_strs _) (by simp (disch := omega); omega) ?_
        intro v2 M2 N2 o2 s2
        simp (disch := omega)
        intro b2 hb2
        simp (disch := omega)
        refine app_own o2 (s2.putN hb2 _) (by simp (disch := omega); rfl) rfl rfl (by omega) (by simp (disch := omega)) (by simp (disch := omega); omega) ?_
        intro v3 M3 N3 o3 s3
        simp (disch := omega)
        refine app_own (news := strs (L.drop (q + 1))) o3 s3 (by
          show Mem.sub? _ b (offAt o (q + 1) c 1) (L.length - (q + 1)) = _
          rw [strs_drop8]; exact sub_keep (sub_dropped hsb hn hcL) (o3.sub.trans s3)) rfl rfl (by omega) (flat_strs _) (by simp (disch := omega); omega) ?_
        intro v4 M4 N4 o4 s4
        simp (disch := omega)
        have e4 : strs [] ++ strs (L.take (q + 1)) ++ [str w] ++ strs (L.drop (q + 1)) = strs (L.take (q + 1) ++ w :: L.drop (q + 1)) := by simp [strs]
        rw [e4, ← hpt] at o4
        refine ret_sub s4 (h _ _ o4.sub (RdN.of o4.rd ?_))
        rw [hpt]
        simp [strs]
    · have hpos2 : posF L w q = posF L w L.length := by
        rw [← hpos]
        have e : posF L w (q + 1) = if Op.bytesLess w (L.getD q []) then posF L w q else q + 1 := rfl
        rw [e, hgd, hb, if_pos rfl]
      simp (disch := omega)
      exact Rnd.mk' q (by omega) (by (repeat (first | exact km | refine kp rfl ?_ | refine km' rfl ?_))) (by simp (disch := omega)) ⟨rfl, by omega, hpos2⟩
  · have hn0 : n = 0 := by omega
    subst hn0
    have hp := stop (.inl rfl)
    have hpt := put _ rfl _ rfl hp (fun hh => hh.1 rfl)
    simp (disch := omega)
    intro b1 hb1
    have o0 : Own M (.slice (some ⟨b1, 0, none⟩) 0 0) (strs []) (M.put b1 (.cells true [] 0)) := Own.new hb1 rfl (Nat.le_refl 0)
    have s0 := o0.sub
    dsimp only
    generalize M.put b1 (.cells true [] 0) = N0 at *
    generalize Value.slice (some ⟨b1, 0, none⟩) 0 0 = v0 at *
    simp (disch := omega)
    refine app_own (news := strs (L.take 0)) o0 (Sub.refl _) (by
      show Mem.sub? _ b o 0 = _
      rw [strs_take8]; exact sub_keep (sub_taken hsb hn) s0) rfl rfl (by omega) (flat_strs _) (by first | (simp (disch := omega); omega) | simp (disch := omega)) ?_
    intro v2 M2 N2 o2 s2
    simp (disch := omega)
    intro b2 hb2
    simp (disch := omega)
    refine app_own o2 (s2.putN hb2 _) (by simp (disch := omega); rfl) rfl rfl (by omega) (by simp (disch := omega)) (by first | (simp (disch := omega); omega) | simp (disch := omega)) ?_
    intro v3 M3 N3 o3 s3
    simp (disch := omega)
    refine app_own (news := strs (L.drop 0)) o3 s3 (by
      show Mem.sub? _ b o L.length = _
      exact sub_keep hsb (o3.sub.trans s3)) rfl rfl (by omega) (flat_strs _) (by first | (simp (disch := omega); omega) | simp (disch := omega)) ?_
    intro v4 M4 N4 o4 s4
    simp (disch := omega)
    have e4 : strs [] ++ strs (L.take 0) ++ [str w] ++ strs (L.drop 0) = strs (L.take 0 ++ w :: L.drop 0) := by simp [strs]
    rw [e4, ← hpt] at o4
    refine ret_sub s4 (h _ _ o4.sub (RdN.of o4.rd ?_))
    rw [hpt]
    simp [strs]
end Go.Proofs.YticejlplbibegaaGreat

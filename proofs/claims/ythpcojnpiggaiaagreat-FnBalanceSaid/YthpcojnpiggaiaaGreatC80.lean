/- Contracts: places of words; lists of words compared; factors of a length, of the reference; factors at places, of the reference. -/
import Derived.Test.YthpcojnpiggaiaaGreatM21
import Derived.Test.YthpcojnpiggaiaaGreatCJ
import Derived.Test.YthpcojnpiggaiaaGreatC21
import Derived.Test.YthpcojnpiggaiaaGreatC20
namespace Go.Proofs.YthpcojnpiggaiaaGreat
open Go Go.RowKit
set_option linter.unusedSimpArgs false
set_option linter.unusedVariables false

def numsI (l : List Nat) : List Int := l.map fun n : Nat => (n : Int)
theorem numsI_len (l : List Nat) : (numsI l).length = l.length := List.length_map _
theorem numsI_snoc (l : List Nat) (n : Nat) : numsI (l ++ [n]) = numsI l ++ [(n : Int)] := by simp [numsI]
theorem words5_does (v v' : Value) (xs ys : List (List UInt8)) (M : Mem) (R : Value → Mem → Prop) (hx : Rd M v (strs xs)) (hy : Rd M v' (strs ys)) (hl : xs.length ≤ 1099511627776) (hl' : ys.length ≤ 1099511627776)
    (h : R (.bool (xs == ys)) M) : Does Tryz.prog 13 [v, v'] M R := by
  refine does_fn tab_ok Tryz.func13 rfl (by kernel_rfl) (by kernel_rfl) Tryz.ntmps13 Tryz.results13 rfl ?_
  obtain ⟨a, c, rfl, ha⟩ := hx.opened
  obtain ⟨a', c', rfl, ha'⟩ := hy.opened
  rw [strs_length] at ha ha' ⊢
  rw [strs_length]
  by_cases hne : xs.length = ys.length
  · simp (disch := omega) [hne]
    refine loop_to tab_ok [4, 5, 11, 12, 13, 14, 15, 16, 17, 18, 19, 20, 21, 22, 23, 24, 25] (fun i : Nat => [(5, .int .i64 i)]) (fun i M' => M' = M ∧ i ≤ xs.length ∧ xs.take i = ys.take i) (fun i => xs.length - i) 0 (by kernel_rfl) (by simp (disch := omega)) ⟨rfl, by omega, rfl⟩ ?_
    rintro i M' g ⟨rfl, hi, he⟩
    by_cases hlt : i < xs.length
    · rcases ha with h0 | ⟨b, o, rfl, hs⟩
      · omega
      rcases ha' with h0 | ⟨b', o', rfl, hs'⟩
      · omega
      have hlt' : i < ys.length := by omega
      have hg := hs i hlt
      have hg' := hs' i hlt'
      have hx : xs[i]? = some xs[i] := List.getElem?_eq_getElem hlt
      have hy : ys[i]? = some ys[i] := List.getElem?_eq_getElem hlt'
      simp (disch := omega) [hne]
      refine draw_to tab_ok (by kernel_rfl) (by kernel_rfl) (by rfl) ?_
      simp (disch := omega) [hg, hg', hx, hy]
      by_cases hq : xs[i] = ys[i]
      · have hq' : (xs[i] == ys[i]) = true := by rw [hq]; exact beq_self_eq_true _
        simp (disch := omega) [hq']
        refine Rnd.mk' (i + 1) (by omega) (by (repeat (first | exact km | refine kp rfl ?_ | refine km' rfl ?_))) (by simp (disch := omega)) ⟨rfl, by omega, ?_⟩
        rw [take_snoc xs hlt, take_snoc ys hlt', he, hq]
      · have hq' : (xs[i] == ys[i]) = false := beq_eq_false_iff_ne.2 hq
        simp (disch := omega) [hq']
        refine ret_of ?_
        have : (xs == ys) = false := by
          rw [beq_eq_false_iff_ne]; rintro rfl; exact hq rfl
        rw [this] at h; exact h
    · have hi' : i = xs.length := by omega
      subst hi'
      simp (disch := omega) [hne]
      refine ret_of ?_
      have : xs = ys := take_beq hne he
      subst this
      simpa using h
  · simp (disch := omega) [hne]
    refine ret_of ?_
    have : (xs == ys) = false := by
      rw [beq_eq_false_iff_ne]; rintro rfl; exact hne rfl
    rw [this] at h; exact h
theorem sub_keep {M N : Mem} {b o n : Nat} {xs : List Value} (h : M.sub? b o n = some xs) (hs : Sub M N) : N.sub? b o n = some xs := by
  unfold Mem.sub? at *
  split at h
  · rename_i own ys tot hb
    rw [hs _ _ hb]
    exact h
  · cases h
theorem strs_take8 (L : List (List UInt8)) (n : Nat) : strs (L.take n) = (strs L).take n := by simp [strs, List.map_take]
theorem strs_drop8 (L : List (List UInt8)) (n : Nat) : strs (L.drop n) = (strs L).drop n := by simp [strs, List.map_drop]
/-- A slice of a block that is told, of these elements. -/
def RdN (M : Mem) (v : Value) (xs : List Value) : Prop := ∃ b o c, v = .slice (some ⟨b, o, none⟩) xs.length c ∧ M.sub? b o xs.length = some xs ∧ xs.length ≤ c
theorem RdN.rd {M : Mem} {v : Value} {xs : List Value} (h : RdN M v xs) : Rd M v xs := let ⟨b, o, c, h1, h2, h3⟩ := h; .inr ⟨b, o, c, h1, h2, h3⟩
theorem RdN.of {M : Mem} {v : Value} {xs : List Value} (h : Rd M v xs) (hne : xs ≠ []) : RdN M v xs := by
  rcases h with ⟨_, _, _, h2⟩ | ⟨b, o, c, h1, h2, h3⟩
  · exact absurd h2 hne
  · exact ⟨b, o, c, h1, h2, h3⟩
theorem RdN.sub {M N : Mem} {v : Value} {xs : List Value} (h : RdN M v xs) (hs : Sub M N) : RdN N v xs := by
  obtain ⟨b, o, c, h1, h2, h3⟩ := h
  exact ⟨b, o, c, h1, sub_keep h2 hs, h3⟩
theorem sub_taken {M : Mem} {b o k n : Nat} {xs : List Value} (h : M.sub? b o k = some xs) (hn : n ≤ k) : M.sub? b o n = some (xs.take n) := by
  unfold Mem.sub? at *
  split at h
  · rename_i own ys tot hb
    split at h
    · rename_i hle
      injection h with h
      rw [if_pos (by omega), ← h, List.take_take, Nat.min_eq_left hn]
    · cases h
  · cases h
theorem sub_dropped {M : Mem} {b o k n c : Nat} {xs : List Value} (h : M.sub? b o k = some xs) (hn : n ≤ k) (hc : k ≤ c) : M.sub? b (offAt o n c 1) (k - n) = some (xs.drop n) := by
  unfold Mem.sub? at *
  split at h
  · rename_i own ys tot hb
    split at h
    · rename_i hle
      injection h with h
      unfold offAt
      by_cases hcn : c = n
      · rw [if_pos hcn, if_pos (by omega), show k - n = 0 by omega, ← h, List.take_zero, List.drop_of_length_le (by rw [List.length_take, List.length_drop]; omega)]
      · rw [if_neg hcn, Nat.mul_one, if_pos (by omega), ← h, List.drop_take, List.drop_drop]
    · cases h
  · cases h
theorem l01Put_does (v : Value) (L : List (List UInt8)) (w : List UInt8) (M : Mem) (R : Value → Mem → Prop) (hv : RdN M v (strs L)) (hl : L.length ≤ 1000000) (h : ∀ v' M', Sub M M' → RdN M' v' (strs (putL L w)) → R v' M') : Does Tryz.prog 88 [v, str w] M R := by
  have hv0 := hv
  obtain ⟨b, o, c, rfl, hsb, hcL⟩ := hv
  rw [strs_length] at hsb hcL hv0 ⊢
  have ha : ∀ i, i < L.length → M.get? b (o + i) = (strs L)[i]? := by
    intro i hi
    have := sub_getN (M := M) (b := b) (o := o) (xs := strs L) (by rw [strs_length]; exact hsb) (i := i) (by rw [strs_length]; exact hi)
    exact this
  refine does_fn tab_ok Tryz.func88 rfl (by kernel_rfl) (by kernel_rfl) Tryz.ntmps88 Tryz.results88 rfl ?_
  simp (disch := omega)
  refine loop_to tab_ok [5, 9, 10, 11, 12, 13, 14, 15, 16, 17, 18, 19, 20, 21] (fun n : Nat => [(5, .int .i64 n)]) (fun n M' => M = M' ∧ n ≤ L.length ∧ posF L w n = posF L w L.length) (fun n => n) L.length (by kernel_rfl) (by simp (disch := omega)) ⟨rfl, Nat.le_refl _, rfl⟩ ?_
  rintro n M' g ⟨rfl, hn, hpos⟩
  have stop : (n = 0 ∨ (0 < n ∧ Op.bytesLess w (L.getD (n - 1) []) = false)) → posF L w L.length = n := by
    intro hs
    rw [← hpos]
    rcases hs with rfl | ⟨h0, hb⟩
    · rfl
    · obtain ⟨q, rfl⟩ : ∃ q, n = q + 1 := ⟨n - 1, by omega⟩
      rw [Nat.add_sub_cancel] at hb
      unfold posF
      rw [hb, if_neg (by decide)]
  have put : ∀ (L1 : List (List UInt8)), L1 = L.take n → ∀ L2 : List (List UInt8), L2 = L.drop n → posF L w L.length = n → ¬ (n ≠ 0 ∧ L.getD (n - 1) [] = w) → putL L w = L1 ++ w :: L2 := by
    rintro _ rfl _ rfl hp hne
    unfold putL
    rw [hp, if_neg hne]
  by_cases h0 : 0 < n
  · obtain ⟨q, rfl⟩ : ∃ q, n = q + 1 := ⟨n - 1, by omega⟩
    have hg := ha q (by omega)
    have hgd : L.getD q [] = L[q]'(by omega) := getD_at (by omega)
    rw [strs_get, List.getElem?_eq_getElem (by omega), Option.map_some] at hg
    rw [Nat.add_sub_cancel] at stop put
    rw [hgd] at stop put
    have hgt : (Op.bytesLess (L[q]'(by omega)) w || (L[q]'(by omega)) == w) = !Op.bytesLess w (L[q]'(by omega)) := by
      rw [Bool.eq_iff_iff, Bool.or_eq_true, bl_iff, beq_iff_eq, Bool.not_eq_true', bl_no]
      constructor
      · rintro (hh | hh)
        · exact List.le_of_lt hh
        · rw [hh]; exact List.le_refl _
      · intro hh
        by_cases e : (L[q]'(by omega)) = w
        · exact .inr e
        · exact .inl (lt_of_le_ne hh e)
    have e1 : ((q + 1 : Nat) : Int) - 1 = q := by omega
    generalize hx : L[q]'(by omega) = x at *
    simp (disch := omega) [hg, hgt]
    cases hb : Op.bytesLess w x
    · simp (disch := omega)
      have hp := stop (.inr ⟨by omega, hb⟩)
      by_cases hxw : x = w
      · have hxb : (x == w) = true := by rw [hxw]; exact beq_self_eq_true _
        simp (disch := omega) [hg, hxb]
        refine ret_of (h _ _ (Sub.refl _) ?_)
        have : putL L w = L := by
          unfold putL
          rw [hp, if_pos ⟨by omega, by rw [Nat.add_sub_cancel, hgd]; exact hxw⟩]
        rw [this]
        exact hv0
      · have hxb : (x == w) = false := beq_eq_false_iff_ne.2 hxw
        have hpt := put _ rfl _ rfl hp (fun hh => hxw hh.2)
        simp (disch := omega) [hg, hxb]
        intro b1 hb1
        have o0 : Own M (.slice (some ⟨b1, 0, none⟩) 0 0) (strs []) (M.put b1 (.cells true [] 0)) := Own.new hb1 rfl (Nat.le_refl 0)
        have s0 := o0.sub
        dsimp only
        generalize M.put b1 (.cells true [] 0) = N0 at *
        generalize Value.slice (some ⟨b1, 0, none⟩) 0 0 = v0 at *
        simp (disch := omega)
        refine app_own (news := strs (L.take (q + 1))) o0 (Sub.refl _) (by
          show Mem.sub? _ b o (q + 1) = _
          rw [strs_take8]; exact sub_keep (sub_taken hsb hn) s0) rfl rfl (by omega) (flat_strs _) (by simp (disch := omega); omega) ?_
        intro v2 M2 N2 o2 s2
        simp (disch := omega)
        intro b2 hb2
        simp (disch := omega)
        refine app_own o2 (s2.putN hb2 _) (by simp (disch := omega); rfl) rfl rfl (by omega) (by simp (disch := omega)) (by simp (disch := omega); omega) ?_
        intro v3 M3 N3 o3 s3
        simp (disch := omega)
        refine app_own (news := strs (L.drop (q + 1))) o3 s3 (by
          show Mem.sub? _ b (offAt o (q + 1) c 1) (L.length - (q + 1)) = _
          rw [strs_drop8]; exact sub_keep (sub_dropped hsb hn hcL) (o3.sub.trans s3)) rfl rfl (by omega) (flat_strs _) (by simp (disch := omega); omega) ?_
        intro v4 M4 N4 o4 s4
        simp (disch := omega)
        have e4 : strs [] ++ strs (L.take (q + 1)) ++ [str w] ++ strs (L.drop (q + 1)) = strs (L.take (q + 1) ++ w :: L.drop (q + 1)) := by simp [strs]
        rw [e4, ← hpt] at o4
        refine ret_sub s4 (h _ _ o4.sub (RdN.of o4.rd ?_))
        rw [hpt]
        simp [strs]
    · have hpos2 : posF L w q = posF L w L.length := by
        rw [← hpos]
        have e : posF L w (q + 1) = if Op.bytesLess w (L.getD q []) then posF L w q else q + 1 := rfl
        rw [e, hgd, hb, if_pos rfl]
      simp (disch := omega)
      exact Rnd.mk' q (by omega) (by (repeat (first | exact km | refine kp rfl ?_ | refine km' rfl ?_))) (by simp (disch := omega)) ⟨rfl, by omega, hpos2⟩
  · have hn0 : n = 0 := by omega
    subst hn0
    have hp := stop (.inl rfl)
    have hpt := put _ rfl _ rfl hp (fun hh => hh.1 rfl)
    simp (disch := omega)
    intro b1 hb1
    have o0 : Own M (.slice (some ⟨b1, 0, none⟩) 0 0) (strs []) (M.put b1 (.cells true [] 0)) := Own.new hb1 rfl (Nat.le_refl 0)
    have s0 := o0.sub
    dsimp only
    generalize M.put b1 (.cells true [] 0) = N0 at *
    generalize Value.slice (some ⟨b1, 0, none⟩) 0 0 = v0 at *
    simp (disch := omega)
    refine app_own (news := strs (L.take 0)) o0 (Sub.refl _) (by
      show Mem.sub? _ b o 0 = _
      rw [strs_take8]; exact sub_keep (sub_taken hsb hn) s0) rfl rfl (by omega) (flat_strs _) (by first | (simp (disch := omega); omega) | simp (disch := omega)) ?_
    intro v2 M2 N2 o2 s2
    simp (disch := omega)
    intro b2 hb2
    simp (disch := omega)
    refine app_own o2 (s2.putN hb2 _) (by simp (disch := omega); rfl) rfl rfl (by omega) (by simp (disch := omega)) (by first | (simp (disch := omega); omega) | simp (disch := omega)) ?_
    intro v3 M3 N3 o3 s3
    simp (disch := omega)
    refine app_own (news := strs (L.drop 0)) o3 s3 (by
      show Mem.sub? _ b o L.length = _
      exact sub_keep hsb (o3.sub.trans s3)) rfl rfl (by omega) (flat_strs _) (by first | (simp (disch := omega); omega) | simp (disch := omega)) ?_
    intro v4 M4 N4 o4 s4
    simp (disch := omega)
    have e4 : strs [] ++ strs (L.take 0) ++ [str w] ++ strs (L.drop 0) = strs (L.take 0 ++ w :: L.drop 0) := by simp [strs]
    rw [e4, ← hpt] at o4
    refine ret_sub s4 (h _ _ o4.sub (RdN.of o4.rd ?_))
    rw [hpt]
    simp [strs]
end Go.Proofs.YthpcojnpiggaiaaGreat

/- Contracts: factors of a length, scattered words, of both. -/
import Derived.Test.YticejlplbibegaaGreatC80
namespace Go.Proofs.YticejlplbibegaaGreat
open Go Go.RowKit
set_option linter.unusedSimpArgs false
set_option linter.unusedVariables false

theorem at_u81 {L : List UInt8} {j : Nat} {v : UInt8} (h : L[j]? = some v) (hj : j < L.length) : L[j] = v := by
  rw [List.getElem?_eq_getElem hj] at h
  injection h
theorem sortS0b_does (M : Mem) (R : Value → Mem → Prop) (h : R (.tuple #[]) M) : Does Tryz.prog 158 [.slice none 0 0] M R := by
  refine does_below (.tuple #[]) ⟨_, Tryz.func158, by kernel_rfl, by kernel_rfl⟩ (fun w hw => ?_) h
  refine (Tryz.slices_Sort_string_none none 0 w).mono fun e w' ⟨h1, h2⟩ => ⟨h1, by rw [h2]; exact Below.refl _ _⟩
theorem compactS0b_does (M : Mem) (R : Value → Mem → Prop) (h : R (.slice none 0 0) M) : Does Tryz.prog 159 [.slice none 0 0] M R := by
  refine does_below (.slice none 0 0) ⟨_, Tryz.func159, by kernel_rfl, by kernel_rfl⟩ (fun w hw => ?_) h
  refine (Tryz.slices_Compact_string_empty none 0 w).mono fun e w' ⟨h1, h2⟩ => ⟨h1, by rw [h2]; exact Below.refl _ _⟩
theorem sorted0b_does (M : Mem) (R : Value → Mem → Prop) (h : R (.slice none 0 0) M) : Does Tryz.prog 127 [.slice none 0 0] M R := by
  refine does_fn tab_ok Tryz.func127 rfl (by kernel_rfl) (by kernel_rfl) Tryz.ntmps127 Tryz.results127 rfl ?_
  simp (disch := omega)
  refine sortS0b_does _ _ ?_
  simp (disch := omega)
  refine compactS0b_does _ _ ?_
  simp (disch := omega)
  exact ret_of h
/-- All factors of a length, whatever the length. -/
theorem factorsL_does (w : List UInt8) (m : Nat) (M : Mem) (R : Value → Mem → Prop) (hl : w.length ≤ 60) (hm : m ≤ 1000) (h : ∀ v' M', Rd M' v' (strs (facL w m)) → Sub M M' → R v' M') : Does Tryz.prog 111 [str w, .int .i64 m] M R := by
  by_cases hmw : m ≤ w.length
  · refine factors_does w m M R hl hmw ?_
    unfold facL at h
    rw [if_pos hmw] at h
    exact h
  · unfold facL at h
    rw [if_neg hmw] at h
    refine does_fn tab_ok Tryz.func111 rfl (by kernel_rfl) (by kernel_rfl) Tryz.ntmps111 Tryz.results111 rfl ?_
    simp (disch := omega)
    refine loop_to tab_ok [5, 6, 7, 8, 9, 10, 11, 12, 13, 14, 15, 16, 17, 18, 19, 20, 21, 22, 23] (fun x : Nat => [(6, .int .i64 0), (5, .slice none 0 0)]) (fun x M' => M = M') (fun x => 0) 0 (by kernel_rfl) (by simp (disch := omega)) rfl ?_
    rintro i M' g rfl
    have hm' : ¬ (m : Int) ≤ w.length := by omega
    simp (disch := omega) [hm']
    refine sorted0b_does _ _ ?_
    simp (disch := omega)
    exact ret_of (h _ _ (Own.nil M).rd (Sub.refl _))
theorem l01Factors_does (w : List UInt8) (m : Nat) (M : Mem) (R : Value → Mem → Prop) (hl : w.length ≤ 60) (hm : m ≤ 1000) (h : ∀ v' M', Rd M' v' (strs (facL w m)) → Sub M M' → R v' M') : Does Tryz.prog 117 [str w, .int .i64 m] M R := by
  refine does_fn tab_ok Tryz.func117 rfl (by kernel_rfl) (by kernel_rfl) Tryz.ntmps117 Tryz.results117 rfl ?_
  simp (disch := omega)
  intro b0 hb0
  have s0 : Sub M (M.put b0 (.cells true [] 0)) := (Sub.refl M).put hb0 _
  have r0 : RdN (M.put b0 (.cells true [] 0)) (.slice (some ⟨b0, 0, none⟩) 0 0) (strs (putAll [] (segsA w m 0))) := ⟨b0, 0, 0, rfl, by rw [show strs (putAll [] (segsA w m 0)) = [] from rfl]; simp [Mem.sub?, put_same], Nat.zero_le _⟩
  simp (disch := omega)
  refine loop_to tab_ok [5, 6, 8, 9, 10, 11, 12, 13, 14, 15, 16, 17, 18, 19, 20, 21, 22, 23] (fun x : Nat × Value => [(6, .int .i64 x.1), (5, x.2)]) (fun x M' => x.1 ≤ w.length + 1 ∧ (m ≤ w.length → x.1 ≤ w.length - m + 1) ∧ (w.length < m → x.1 = 0) ∧ Sub M M' ∧ RdN M' x.2 (strs (putAll [] (segsA w m x.1)))) (fun x => w.length + 1 - x.1) (0, .slice (some ⟨b0, 0, none⟩) 0 0) (by kernel_rfl) (by simp (disch := omega)) ⟨by simp only; omega, fun _ => by simp only; omega, fun _ => rfl, s0, r0⟩ ?_
  rintro ⟨i, v⟩ M' g ⟨hi, hi2, hi3, hs, hr⟩
  simp only at hi hi2 hi3 hs hr
  by_cases hlt : i + m ≤ w.length
  · have hsg := seg_int (w := w) (a := i) (m := m)
    have hsu := segsA_succ w m i
    have hln := putAll_len (segsA w m i) []
    rw [segsA_length] at hln
    have hpa := putAll_snoc (segsA w m i) (seg w i m) []
    rw [← hsu] at hpa
    simp (disch := omega)
    rw [hsg]
    refine l01Put_does v _ _ _ _ hr (by simp only [List.length_nil] at hln; omega) ?_
    intro v' M2 s2 r2
    rw [← hpa] at r2
    simp (disch := omega)
    exact Rnd.mk' (i + 1, v') (by simp only; omega) (by (repeat (first | exact km | refine kp rfl ?_ | refine km' rfl ?_))) (by simp (disch := omega)) ⟨by simp only; omega, fun _ => by simp only; omega, fun hh => by omega, hs.trans s2, r2⟩
  · have hlt' : ¬ (i : Int) + m ≤ w.length := by omega
    simp (disch := omega) [hlt']
    refine ret_of (h v M' ?_ hs)
    rw [putAll_srt] at hr
    unfold facL
    by_cases hmw : m ≤ w.length
    · rw [if_pos hmw, show w.length - m + 1 = i by have := hi2 hmw; omega]
      exact hr.rd
    · rw [if_neg hmw]
      have hi0 := hi3 (by omega)
      subst hi0
      have e : srt (segsA w m 0) = [] := by rw [← putAll_srt]; rfl
      rw [e] at hr
      exact hr.rd
def fofC (w : List UInt8) (m : Int) : Int := if isWord w then (if 0 ≤ m ∧ m ≤ 60 then 0 else 2) else 1
def fofL (w : List UInt8) (m : Int) : List (List UInt8) := if isWord w then (if 0 ≤ m ∧ m ≤ 60 then facL w m.toNat else []) else []
theorem fofL_len (w : List UInt8) (m : Int) : (fofL w m).length ≤ 61 := by
  unfold fofL
  split
  · rename_i h
    split
    · exact facL_len (isWord_len h) _
    · simp
  · simp
theorem impl_FactorsOf (w : List UInt8) (m : Int) (M : Mem) (R : Value → Mem → Prop) (hl : w.length ≤ 1099511627776) (h : ∀ v M', Rd M' v (strs (fofL w m)) → Sub M M' → R (tup2 v (fofC w m)) M') : Does Tryz.prog 34 [str w, .int .i64 m] M R := by
  unfold tup2 fofL fofC at h
  refine does_fn tab_ok Tryz.func34 rfl (by kernel_rfl) (by kernel_rfl) Tryz.ntmps34 Tryz.results34 rfl ?_
  simp (disch := omega)
  intro b3 hb3
  simp (disch := omega)
  have s3 : Sub M (M.put b3 (.cells true [.int .i64 m] 1)) := (Sub.refl M).put hb3 _
  have k3 := put_same M b3 (.cells true [.int .i64 m] 1)
  intro b6 hb6
  simp (disch := omega)
  have s6 := s3.putN hb6 (.cells true [str w] 1)
  have g3 : ((M.put b3 (.cells true [.int .i64 m] 1)).put b6 (.cells true [str w] 1)).get? b3 0 = some (.int .i64 m) := get_of ((Sub.refl _).put hb6 _ _ _ k3) 0
  refine wordCode_does _ _ [w] (decide (0 ≤ m ∧ m ≤ 60)) (fun M' : Mem => M'.get? b3 0 = some (.int .i64 m)) _ _ (Rd.new rfl (Nat.le_refl 1)) (fine1 hl) (by simp) g3 (stab_get _ _) ?_ ?_
  · intro K R' hG hR'
    simp (disch := omega)
    refine does_fn tab_ok Tryz.func109 rfl (by kernel_rfl) (by kernel_rfl) Tryz.ntmps109 Tryz.results109 rfl ?_
    simp (disch := omega) [hG]
    refine isLength_does m _ _ ?_
    simp (disch := omega)
    exact ret_of (by simpa using hR')
  · rw [codeOf1]
    cases hw : isWord w
    · rw [hw] at h
      simp (disch := omega)
      exact ret_sub s6 (h _ _ (Own.nil M).rd (Sub.refl _))
    · rw [hw, if_pos rfl, if_pos rfl] at h
      have h60 := isWord_len hw
      generalize (M.put b3 (.cells true [.int .i64 m] 1)).put b6 (.cells true [str w] 1) = N at *
      by_cases hk : 0 ≤ m ∧ m ≤ 60
      · rw [if_pos hk, if_pos hk] at h
        rw [decide_eq_true hk]
        obtain ⟨m, rfl⟩ : ∃ i : Nat, m = i := ⟨m.toNat, by omega⟩
        rw [Int.toNat_natCast] at h
        simp (disch := omega) [g3]
        refine factorsL_does w m _ _ h60 (by omega) ?_
        intro v M' r s
        simp (disch := omega)
        exact ret_of (h v M' r (s6.trans s))
      · rw [if_neg hk, if_neg hk] at h
        rw [decide_eq_false hk]
        simp (disch := omega)
        exact ret_sub s6 (h _ _ (Own.nil M).rd (Sub.refl _))
theorem spec_FactorsOf (w : List UInt8) (m : Int) (M : Mem) (R : Value → Mem → Prop) (hl : w.length ≤ 1099511627776) (h : ∀ v M', Rd M' v (strs (fofL w m)) → Sub M M' → R (tup2 v (fofC w m)) M') : Does Tryz.prog 41 [str w, .int .i64 m] M R := by
  unfold tup2 fofL fofC at h
  refine does_fn tab_ok Tryz.func41 rfl (by kernel_rfl) (by kernel_rfl) Tryz.ntmps41 Tryz.results41 rfl ?_
  simp (disch := omega)
  refine l01Is_does w _ _ hl ?_
  cases hw : isWord w
  · rw [hw] at h
    simp (disch := omega)
    exact ret_of (h _ _ (Own.nil M).rd (Sub.refl _))
  · rw [hw, if_pos rfl, if_pos rfl] at h
    have h60 := isWord_len hw
    simp (disch := omega)
    refine l01In_does _ _ _ _ _ ?_
    by_cases hk : 0 ≤ m ∧ m ≤ 60
    · rw [if_pos hk, if_pos hk] at h
      rw [decide_eq_true hk]
      obtain ⟨m, rfl⟩ : ∃ i : Nat, m = i := ⟨m.toNat, by omega⟩
      rw [Int.toNat_natCast] at h
      simp (disch := omega)
      refine l01Factors_does w m _ _ h60 (by omega) ?_
      intro v M' r s
      simp (disch := omega)
      exact ret_of (h v M' r s)
    · rw [if_neg hk, if_neg hk] at h
      rw [decide_eq_false hk]
      simp (disch := omega)
      exact ret_of (h _ _ (Own.nil M).rd (Sub.refl _))
theorem isScattered_does (w u : List UInt8) (M : Mem) (R : Value → Mem → Prop) (hw : w.length ≤ 60) (hu : u.length ≤ 60) (h : ∀ M', Sub M M' → R (.bool (scF w u).isEmpty) M') : Does Tryz.prog 112 [str w, str u] M R := by
  refine does_fn tab_ok Tryz.func112 rfl (by kernel_rfl) (by kernel_rfl) Tryz.ntmps112 Tryz.results112 rfl ?_
  simp (disch := omega)
  intro b c hb hc
  have hs : Sub M (M.put b (.cells true (bytesV u) c)) := (Sub.refl _).put hb _
  simp (disch := omega)
  refine loop_to tab_ok [0, 6, 10, 11, 12, 13, 14, 15, 16, 17, 18, 19, 20, 21, 22, 23, 24] (fun i : Nat => [(10, .int .i64 i), (0, str (scF w (u.take i)))]) (fun i M' => M.put b (.cells true (bytesV u) c) = M' ∧ i ≤ u.length) (fun i => u.length - i) 0 (by kernel_rfl) (by simp (disch := omega) [scF]) ⟨rfl, by omega⟩ ?_
  rintro i M' g ⟨rfl, hi⟩
  by_cases hlt : i < u.length
  · have hx : u[i]? = some u[i] := List.getElem?_eq_getElem hlt
    have hsn := scF_snoc w (u.take i) u[i]
    rw [← take_snoc u hlt] at hsn
    have hxl := u[i].toNat_lt
    have hsl := (scF_suffix (u.take i) w).length_le
    generalize u[i] = y at *
    generalize scF w (u.take i) = x at *
    cases x with
    | nil =>
      simp (disch := omega) [hx, at_u81 hx]
      refine Rnd.mk' (i + 1) (by omega) (by (repeat (first | exact km | refine kp rfl ?_ | refine km' rfl ?_))) (by simp (disch := omega) [hsn, scSt]) ⟨rfl, by omega⟩
    | cons a x =>
      have hal := a.toNat_lt
      rw [List.length_cons] at hsl
      by_cases he : a = y
      · subst he
        rw [show scSt (a :: x) a = x by simp [scSt]] at hsn
        simp (disch := omega) [hx, at_u81 hx]
        refine Rnd.mk' (i + 1) (by omega) (by (repeat (first | exact km | refine kp rfl ?_ | refine km' rfl ?_))) (by simp (disch := omega) [hsn]) ⟨rfl, by omega⟩
      · rw [show scSt (a :: x) y = a :: x by simp [scSt, he]] at hsn
        have he' : ¬ (a.toNat : Int) = (y.toNat : Int) := fun e => he (UInt8.toNat_inj.1 (by omega))
        simp (disch := omega) [hx, at_u81 hx, he']
        refine Rnd.mk' (i + 1) (by omega) (by (repeat (first | exact km | refine kp rfl ?_ | refine km' rfl ?_))) (by simp (disch := omega) [hsn]) ⟨rfl, by omega⟩
  · have hi' : i = u.length := by omega
    subst hi'
    rw [List.take_length]
    have e : (scF w u == []) = (scF w u).isEmpty := by cases scF w u <;> rfl
    simp (disch := omega) [e]
    exact ret_of (by simpa using h _ hs)
theorem impl_IsScattered (w u : List UInt8) (M : Mem) (R : Value → Mem → Prop) (hw : w.length ≤ 1099511627776) (hu : u.length ≤ 1099511627776) (h : ∀ M', Sub M M' → R (tup2 (.bool (isWord w && isWord u && (scF w u).isEmpty)) (twoC w u)) M') : Does Tryz.prog 35 [str w, str u] M R := by
  unfold tup2 at h
  refine does_fn tab_ok Tryz.func35 rfl (by kernel_rfl) (by kernel_rfl) Tryz.ntmps35 Tryz.results35 rfl ?_
  simp (disch := omega)
  intro b1 hb1
  simp (disch := omega)
  have hs1 : Sub M (M.put b1 (.cells true [str w, str u] 2)) := (Sub.refl _).put hb1 _
  refine wordCode_does _ _ [w, u] true (fun _ => True) _ _ (Rd.new rfl (Nat.le_refl 2)) (fine2w hw hu) (by simp) trivial stab_true (always_tells _) ?_
  rw [codeOf2]
  unfold twoC at h ⊢
  cases hb : isWord w && isWord u
  · rw [hb] at h
    simp (disch := omega)
    exact ret_of (h _ hs1)
  · rw [hb, if_pos rfl, Bool.true_and] at h
    rw [Bool.and_eq_true] at hb
    simp (disch := omega)
    refine isScattered_does w u _ _ (isWord_len hb.1) (isWord_len hb.2) ?_
    intro M' s
    simp (disch := omega)
    exact ret_of (h _ (hs1.trans s))
theorem spec_IsScattered (w u : List UInt8) (M : Mem) (R : Value → Mem → Prop) (hw : w.length ≤ 1099511627776) (hu : u.length ≤ 1099511627776) (h : R (tup2 (.bool (isWord w && isWord u && (scF w u).isEmpty)) (twoC w u)) M) : Does Tryz.prog 39 [str w, str u] M R := by
  unfold tup2 twoC at h
  refine does_fn tab_ok Tryz.func39 rfl (by kernel_rfl) (by kernel_rfl) Tryz.ntmps39 Tryz.results39 rfl ?_
  simp (disch := omega)
  refine l01Is_does w _ _ hw ?_
  cases h1 : isWord w
  · rw [h1] at h
    simp (disch := omega)
    exact ret_of h
  · rw [h1, Bool.true_and] at h
    simp (disch := omega)
    refine l01Is_does u _ _ hu ?_
    cases h2 : isWord u
    · rw [h2] at h
      simp (disch := omega)
      exact ret_of h
    · rw [h2, if_pos rfl, Bool.true_and] at h
      have w60 := isWord_len h1
      have u60 := isWord_len h2
      simp (disch := omega)
      refine loop_to tab_ok [6, 7, 16, 17, 18, 19, 20, 21, 22, 23, 24, 25, 26, 27, 28, 29, 30, 31, 32, 33, 34, 35, 36] (fun i : Nat => [(7, .int .i64 i), (6, .int .i64 (w.length - (scF w (u.take i)).length : Nat))]) (fun i M' => M = M' ∧ i ≤ u.length) (fun i => u.length - i) 0 (by kernel_rfl) (by simp (disch := omega) [scF]) ⟨rfl, by omega⟩ ?_
      rintro i M' g ⟨rfl, hi⟩
      have hsuf := scF_suffix (u.take i) w
      have hsl := hsuf.length_le
      have hdr := List.suffix_iff_eq_drop.1 hsuf
      have fin : (scF w (u.take i) = [] ∨ i = u.length) → (scF w u).isEmpty = (scF w (u.take i)).isEmpty := by
        rintro (e | e)
        · have : scF w u = scF (scF w (u.take i)) (u.drop i) := by
            unfold scF
            rw [← List.foldl_append, List.take_append_drop]
          rw [this, e, scF_nil]
        · rw [e, List.take_length]
      by_cases hlt : i < u.length
      · have hx : u[i]? = some u[i] := List.getElem?_eq_getElem hlt
        have hsn := scF_snoc w (u.take i) u[i]
        rw [← take_snoc u hlt] at hsn
        have hxl := u[i].toNat_lt
        generalize u[i] = y at *
        generalize scF w (u.take i) = x at *
        cases x with
        | nil =>
          have hf := fin (.inl rfl)
          rw [hf] at h
          simp (disch := omega)
          exact ret_of h
        | cons a x =>
          have hal := a.toNat_lt
          obtain ⟨n, hn⟩ : ∃ n, n = w.length - (a :: x).length := ⟨_, rfl⟩
          rw [List.length_cons] at hsl hn
          have hwn : w[n]? = some a := by
            have := congrArg (fun l => l[0]?) hdr
            simp only [List.getElem?_cons_zero, List.getElem?_drop, Nat.add_zero, List.length_cons] at this
            rw [hn]; exact this.symm
          have hnl : n < w.length := by omega
          rw [List.length_cons, ← hn]
          by_cases he : a = y
          · subst he
            rw [show scSt (a :: x) a = x by simp [scSt]] at hsn
            simp (disch := omega) [hlt, hnl]
            refine draw_to tab_ok (by kernel_rfl) (by kernel_rfl) (by rfl) ?_
            simp (disch := omega) [hx, hwn, at_u81 hx, at_u81 hwn]
            refine Rnd.mk' (i + 1) (by omega) (by (repeat (first | exact km | refine kp rfl ?_ | refine km' rfl ?_))) (by simp (disch := omega) [hsn]; omega) ⟨rfl, by omega⟩
          · rw [show scSt (a :: x) y = a :: x by simp [scSt, he]] at hsn
            have he' : ¬ (y.toNat : Int) = (a.toNat : Int) := fun e => he (UInt8.toNat_inj.1 (by omega))
            simp (disch := omega) [hlt, hnl]
            refine draw_to tab_ok (by kernel_rfl) (by kernel_rfl) (by rfl) ?_
            simp (disch := omega) [hx, hwn, at_u81 hx, at_u81 hwn, he']
            refine Rnd.mk' (i + 1) (by omega) (by (repeat (first | exact km | refine kp rfl ?_ | refine km' rfl ?_))) (by simp (disch := omega) [hsn]; omega) ⟨rfl, by omega⟩
      · have hi' : i = u.length := by omega
        have hf := fin (.inr hi')
        rw [hf] at h
        generalize scF w (u.take i) = x at *
        have e : ((w.length - x.length : Nat) : Int) = (w.length : Int) ↔ x = [] := by
          rw [← List.length_eq_zero_iff]; omega
        have hlt' : ¬ (i : Int) < (u.length : Int) := by omega
        simp (disch := omega) [hlt']
        refine ret_of ?_
        have e2 : ((((w.length - x.length : Nat) : Int)) == (w.length : Int)) = x.isEmpty := by
          rw [Bool.eq_iff_iff, beq_iff_eq, e, List.isEmpty_iff]
        rw [e2]
        exact h
end Go.Proofs.YticejlplbibegaaGreat

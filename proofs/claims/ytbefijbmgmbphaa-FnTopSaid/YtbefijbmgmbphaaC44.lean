/- Contracts: reversed words, periods, powers, roots, palindromes, closures, of the program. -/
import Derived.Test.YtbefijbmgmbphaaC26
import Derived.Test.YtbefijbmgmbphaaC43
import Derived.Test.YtbefijbmgmbphaaE11
import Derived.Test.YtbefijbmgmbphaaM12
namespace Go.Proofs.Ytbefijbmgmbphaa
open Go Go.RowKit
set_option linter.unusedSimpArgs false
set_option linter.unusedVariables false

/-- Where i letters from each end have changed places. -/
def swapN (l : List UInt8) (i : Nat) : List UInt8 := (List.range l.length).map fun j => if j < i ∨ l.length - i ≤ j then l.getD (l.length - 1 - j) 0 else l.getD j 0
theorem swapN_len (l : List UInt8) (i : Nat) : (swapN l i).length = l.length := by simp [swapN]
theorem swapN_get (l : List UInt8) (i : Nat) {j : Nat} (hj : j < l.length) : (swapN l i)[j]? = some (if j < i ∨ l.length - i ≤ j then l.getD (l.length - 1 - j) 0 else l.getD j 0) := by
  unfold swapN
  rw [List.getElem?_map, List.getElem?_range hj]; rfl
theorem swapN_zero (l : List UInt8) : swapN l 0 = l := by
  apply List.ext_getElem?
  intro j
  by_cases hj : j < l.length
  · rw [swapN_get l 0 hj, if_neg (by omega), List.getD_eq_getElem?_getD, List.getElem?_eq_getElem hj]; rfl
  · rw [List.getElem?_eq_none (by rw [swapN_len]; omega), List.getElem?_eq_none (by omega)]
theorem swapN_end {l : List UInt8} {i : Nat} (h : l.length ≤ 2 * i + 1) : swapN l i = l.reverse := by
  apply List.ext_getElem?
  intro j
  by_cases hj : j < l.length
  · rw [swapN_get l i hj, List.getElem?_reverse hj]
    have hk : l.length - 1 - j < l.length := by omega
    rw [List.getElem?_eq_getElem hk]
    by_cases hc : j < i ∨ l.length - i ≤ j
    · rw [if_pos hc, List.getD_eq_getElem?_getD, List.getElem?_eq_getElem hk]; rfl
    · rw [if_neg hc, List.getD_eq_getElem?_getD, List.getElem?_eq_getElem hj]
      have e : l.length - 1 - j = j := by omega
      simp only [e, Option.getD_some]
  · rw [List.getElem?_eq_none (by rw [swapN_len]; omega), List.getElem?_eq_none (by rw [List.length_reverse]; omega)]
theorem swapN_step {l : List UInt8} {i : Nat} (h : 2 * i + 1 < l.length) : ((swapN l i).set i (l.getD (l.length - 1 - i) 0)).set (l.length - 1 - i) (l.getD i 0) = swapN l (i + 1) := by
  apply List.ext_getElem?
  intro j
  by_cases hj : j < l.length
  · rw [List.getElem?_set, List.getElem?_set, swapN_get l i hj, swapN_get l (i + 1) hj]
    have hlen := swapN_len l i
    by_cases e1 : l.length - 1 - i = j
    · rw [if_pos e1, if_pos (by rw [List.length_set]; omega), if_pos (by omega)]
      congr 2
      omega
    · rw [if_neg e1]
      by_cases e2 : i = j
      · rw [if_pos e2, if_pos (by omega), if_pos (by omega), e2]
      · rw [if_neg e2]
        congr 1
        by_cases hc : j < i ∨ l.length - i ≤ j
        · rw [if_pos hc, if_pos (by omega)]
        · rw [if_neg hc, if_neg (by omega)]
  · rw [List.getElem?_eq_none (by rw [List.length_set, List.length_set, swapN_len]; omega), List.getElem?_eq_none (by rw [swapN_len]; omega)]
theorem bytesV_at {l : List UInt8} {j : Nat} (hj : j < l.length) : (bytesV l)[j]? = some (.int .u8 (l.getD j 0).toNat) := by
  unfold bytesV
  rw [List.getElem?_map, List.getElem?_eq_getElem hj, List.getD_eq_getElem?_getD, List.getElem?_eq_getElem hj]; rfl
theorem bytesV_set (l : List UInt8) (j : Nat) (u : UInt8) : (bytesV l).set j (.int .u8 u.toNat) = bytesV (l.set j u) := by simp [bytesV, List.map_set]
theorem reverseB_does (b c : Nat) (l : List UInt8) (M : Mem) (R : Value → Mem → Prop) (hM : M b = some (.cells true (bytesV l) c)) (hl : l.length ≤ 1000000) (h : R (.tuple #[]) (M.put b (.cells true (bytesV l.reverse) c))) : Does Try.prog 153 [.slice (some ⟨b, 0, none⟩) l.length c] M R := by
  refine does_fn tab_ok Try.func153 rfl (by kernel_rfl) (by kernel_rfl) Try.ntmps153 Try.results153 rfl ?_
  simp (disch := omega)
  refine loop_to tab_ok [2, 3, 7, 8, 9, 10, 11, 12, 13, 14, 15, 16, 17, 18, 19, 20, 21, 22, 23, 24, 25, 26, 27] (fun i : Nat => [(2, .int .i64 i), (3, .int .i64 ((l.length : Int) - 1 - i))]) (fun i M' => 2 * i ≤ l.length + 1 ∧ M' = M.put b (.cells true (bytesV (swapN l i)) c)) (fun i => l.length + 1 - i) 0 (by kernel_rfl) (by simp (disch := omega)) ⟨by omega, ?_⟩ ?_
  · rw [swapN_zero]
    funext i
    by_cases e : i = b
    · subst e; rw [put_same, hM]
    · rw [put_ne _ _ e]
  rintro i M' g ⟨hi, rfl⟩
  have hk : (M.put b (.cells true (bytesV (swapN l i)) c)) b = some (.cells true (bytesV (swapN l i)) c) := put_same _ _ _
  by_cases hlt : 2 * i + 1 < l.length
  · have hc : (i : Int) < (l.length : Int) - 1 - i := by omega
    obtain ⟨q, hq⟩ : ∃ q : Nat, q = l.length - 1 - i := ⟨_, rfl⟩
    have hqi : (l.length : Int) - 1 - i = q := by omega
    have hst := swapN_step hlt
    rw [← hq] at hst
    have h1 := bytesV_at (l := swapN l i) (j := i) (by rw [swapN_len]; omega)
    have h2 := bytesV_at (l := swapN l i) (j := q) (by rw [swapN_len]; omega)
    have e1 : (swapN l i).getD i 0 = l.getD i 0 := by
      rw [List.getD_eq_getElem?_getD, swapN_get l i (by omega), if_neg (by omega)]; rfl
    have e2 : (swapN l i).getD q 0 = l.getD q 0 := by
      rw [List.getD_eq_getElem?_getD, swapN_get l i (by omega), if_neg (by omega)]; rfl
    rw [e1] at h1
    rw [e2] at h2
    have hsl := swapN_len l i
    rw [hqi]
    generalize l.getD i 0 = u at *
    generalize l.getD q 0 = w at *
    have hnx : (l.length : Int) - 1 - ((i : Int) + 1) = (q : Int) - 1 := by omega
    rw [hqi] at hc
    simp (disch := omega) [hc]
    refine plays (lights [0, 1, 2, 3, 4, 5, 6, 7, 8, 9, 10, 11, 12] (.one 13 2 (lights [14] (.one 15 2 .fin)))) tab_ok (by kernel_rfl) (by kernel_rfl) (by rfl) ?_
    simp (disch := omega) [get_of hk, hk, h1, h2, set_is, bytesV_set, bytesV_length]
    exact Rnd.mk' (i + 1) (by omega) (by (repeat (first | exact km | refine kp rfl ?_ | refine km' rfl ?_))) (by simp (disch := omega); omega) ⟨by omega, by simp only [put_put, hst]⟩
  · have hc : ¬ (i : Int) < (l.length : Int) - 1 - i := by omega
    rw [swapN_end (by omega)]
    simp (disch := omega) [hc]
    exact ret_of h
theorem reversed_does (l : List UInt8) (M : Mem) (R : Value → Mem → Prop) (hl : l.length ≤ 1000000) (h : R (str l.reverse) M) : Does Try.prog 75 [str l] M R := by
  refine does_fn tab_ok Try.func75 rfl (by kernel_rfl) (by kernel_rfl) Try.ntmps75 Try.results75 rfl ?_
  simp (disch := omega)
  intro b c hb hc
  rw [bytesV_length] at hc
  simp (disch := omega)
  refine reverseB_does b c l _ _ (put_same _ _ _) hl ?_
  rw [put_put]
  have hk : (M.put b (.cells true (bytesV l.reverse) c)) b = some (.cells true (bytesV l.reverse) c) := put_same _ _ _
  have ht : (bytesV l.reverse).take l.length = bytesV l.reverse := List.take_of_length_le (by rw [bytesV_length, List.length_reverse]; omega)
  simp (disch := omega) [sub_of hk, ht]
  exact ret_sub ((Sub.refl M).put hb _) h
theorem isPal_does (l : List UInt8) (M : Mem) (R : Value → Mem → Prop) (hl : l.length ≤ 1000000) (h : R (.bool (palB l)) M) : Does Try.prog 83 [str l] M R := by
  unfold palB at h
  refine does_fn tab_ok Try.func83 rfl (by kernel_rfl) (by kernel_rfl) Try.ntmps83 Try.results83 rfl ?_
  simp (disch := omega)
  refine reversed_does l _ _ hl ?_
  simp (disch := omega)
  exact ret_of h
theorem ending_does (w : List UInt8) (M : Mem) (R : Value → Mem → Prop) (hl : w.length ≤ 60) (h : R (.int .i64 ((w.length : Int) - (endF w : Nat))) M) : Does Try.prog 162 [str w] M R := by
  refine does_fn tab_ok Try.func162 rfl (by kernel_rfl) (by kernel_rfl) Try.ntmps162 Try.results162 rfl ?_
  simp (disch := omega)
  refine loop_to tab_ok [3, 4, 5, 6, 7, 8, 9, 10] (fun i : Nat => [(3, .int .i64 i)]) (fun i M' => M' = M ∧ i ≤ w.length ∧ ∀ j, j < i → palB (w.drop j) = false) (fun i => w.length + 1 - i) 0 (by kernel_rfl) (by simp (disch := omega)) ⟨rfl, by omega, fun j hj => by omega⟩ ?_
  rintro i M' g ⟨rfl, hi, hno⟩
  simp (disch := omega)
  refine isPal_does (w.drop i) _ _ (by rw [List.length_drop]; omega) ?_
  cases hp : palB (w.drop i)
  · have hlt : i < w.length := by
      rcases Nat.lt_or_ge i w.length with hh | hh
      · exact hh
      · rw [List.drop_of_length_le hh] at hp; cases hp
    simp (disch := omega)
    refine Rnd.mk' (i + 1) (by omega) (by (repeat (first | exact km | refine kp rfl ?_ | refine km' rfl ?_))) (by simp (disch := omega)) ⟨rfl, by omega, fun j hj => ?_⟩
    by_cases e : j = i
    · rw [e, hp]
    · exact hno j (by omega)
  · rw [endF_is hi hp hno] at h
    simp (disch := omega)
    exact ret_of h
theorem closure_does (w : List UInt8) (M : Mem) (R : Value → Mem → Prop) (hl : w.length ≤ 60) (h : R (str (closF w)) M) : Does Try.prog 82 [str w] M R := by
  have he := endF_le w
  unfold closF at h
  refine does_fn tab_ok Try.func82 rfl (by kernel_rfl) (by kernel_rfl) Try.ntmps82 Try.results82 rfl ?_
  simp (disch := omega)
  refine ending_does w _ _ hl ?_
  obtain ⟨i, hi⟩ : ∃ i, i = endF w := ⟨_, rfl⟩
  rw [← hi] at h he ⊢
  have e1 : ((w.length : Int) - ((w.length : Int) - i)) = i := by omega
  simp (disch := omega) [e1]
  refine reversed_does (w.take i) _ _ (by rw [List.length_take]; omega) ?_
  simp (disch := omega)
  exact ret_of h
theorem periods_does (w : List UInt8) (M : Mem) (R : Value → Mem → Prop) (hl : w.length ≤ 60) (h : ∀ v M', Own M v (ints (perL w)) M' → R v M') : Does Try.prog 76 [str w] M R := by
  refine does_fn tab_ok Try.func76 rfl (by kernel_rfl) (by kernel_rfl) Try.ntmps76 Try.results76 rfl ?_
  simp (disch := omega)
  refine loop_to tab_ok [3, 4, 5, 6, 7, 8, 9, 10, 11, 12, 13, 14, 15, 16, 17] (fun x : Nat × Value => [(4, .int .i64 ((x.1 : Int) + 1)), (3, x.2)]) (fun x M' => x.1 ≤ w.length ∧ Own M x.2 (ints (perTo w x.1)) M') (fun x => w.length - x.1) (0, .slice none 0 0) (by kernel_rfl) (by simp (disch := omega)) ⟨by omega, Own.nil M⟩ ?_
  rintro ⟨i, v⟩ M' g ⟨hi, ho⟩
  simp only at hi ho
  have hpl := perTo_len w i
  by_cases hlt : i < w.length
  · have hs := perTo_succ w i
    simp (disch := omega)
    refine hasPeriod_does w (i + 1) _ (by omega) _ _ hl (by omega) ?_
    generalize perTo w i = L at *
    cases hp : hp w (i + 1)
    · rw [hp, if_neg (by decide), List.append_nil] at hs
      simp (disch := omega)
      refine Rnd.mk' (i + 1, v) (by simp only; omega) (by (repeat (first | exact km | refine kp rfl ?_ | refine km' rfl ?_))) (by simp (disch := omega)) ⟨by simp only; omega, ?_⟩
      simp only
      rw [hs]; exact ho
    · rw [hp, if_pos rfl] at hs
      simp (disch := omega)
      intro b' hb'
      simp (disch := omega)
      refine app_own ho ((Sub.refl _).put hb' _) (by simp (disch := omega); rfl) rfl rfl (by omega) (by simp (disch := omega)) (by simp (disch := omega); omega) ?_
      intro v' M'' N'' ho' hs'
      simp (disch := omega)
      refine Rnd.mk'' M'' (i + 1, v') hs' (by simp only; omega) (by (repeat (first | exact km | refine kp rfl ?_ | refine km' rfl ?_))) (by simp (disch := omega)) ⟨by simp only; omega, ?_⟩
      simp only
      rw [hs, ← ints_snoc]
      exact ho'
  · have hi' : i = w.length := by omega
    subst hi'
    simp (disch := omega)
    exact ret_of (h v M' ho)
theorem period_does (w : List UInt8) (M : Mem) (R : Value → Mem → Prop) (hl : w.length ≤ 60) (h1 : 1 ≤ w.length) (hle : 1 ≤ perF w → perF w ≤ w.length → R (.int .i64 (perF w : Nat)) M) : Does Try.prog 161 [str w] M R := by
  refine does_fn tab_ok Try.func161 rfl (by kernel_rfl) (by kernel_rfl) Try.ntmps161 Try.results161 rfl ?_
  simp (disch := omega)
  refine loop_to tab_ok [3, 4, 5, 6, 7, 8, 9] (fun p : Nat => [(3, .int .i64 ((p : Int) + 1))]) (fun p M' => M' = M ∧ p < w.length ∧ ∀ q, 1 ≤ q → q < p + 1 → hp w q = false) (fun p => w.length - p) 0 (by kernel_rfl) (by simp (disch := omega)) ⟨rfl, by omega, fun q h1 h2 => by omega⟩ ?_
  rintro p M' g ⟨rfl, hi, hno⟩
  simp (disch := omega)
  refine hasPeriod_does w (p + 1) _ (by omega) _ _ hl (by omega) ?_
  cases hp' : hp w (p + 1)
  · have hlt : p + 1 < w.length := by
      rcases Nat.lt_or_ge (p + 1) w.length with hh | hh
      · exact hh
      · have e : p + 1 = w.length := by omega
        rw [e, hp_all] at hp'
        cases hp'
    simp (disch := omega)
    refine Rnd.mk' (p + 1) (by omega) (by (repeat (first | exact km | refine kp rfl ?_ | refine km' rfl ?_))) (by simp (disch := omega)) ⟨rfl, by omega, fun q h1 h2 => ?_⟩
    by_cases e : q = p + 1
    · rw [e, hp']
    · exact hno q h1 (by omega)
  · have e := perF_is (by omega) (by omega) hp' hno
    rw [e] at hle
    have := hle (by omega) (by omega)
    simp (disch := omega)
    exact ret_of this
theorem root_does (w : List UInt8) (M : Mem) (R : Value → Mem → Prop) (hl : w.length ≤ 60) (h1 : 1 ≤ w.length) (h : 1 ≤ (rootF w).length → (rootF w).length ≤ 60 → R (str (rootF w)) M) : Does Try.prog 81 [str w] M R := by
  unfold rootF at h
  refine does_fn tab_ok Try.func81 rfl (by kernel_rfl) (by kernel_rfl) Try.ntmps81 Try.results81 rfl ?_
  simp (disch := omega)
  refine period_does w _ _ hl h1 ?_
  intro hp1 hp2
  generalize perF w = p at *
  have e : ((w.length : Int).tmod (p : Int) = 0) ↔ w.length % p = 0 := by
    rw [Int.tmod_eq_emod_of_nonneg (by omega)]; omega
  have hp0 : ¬ (p : Int) = 0 := by omega
  by_cases hd : w.length % p = 0
  · have hd' := e.2 hd
    rw [if_pos hd, List.length_take] at h
    simp (disch := omega) [hd', hp0]
    exact ret_of (h (by omega) (by omega))
  · have hd' : ¬ (w.length : Int).tmod (p : Int) = 0 := fun q => hd (e.1 q)
    rw [if_neg hd] at h
    simp (disch := omega) [hd', hp0]
    exact ret_of (h (by omega) hl)
theorem repeat_does (w : List UInt8) (k : Nat) (M : Mem) (R : Value → Mem → Prop) (hl : w.length ≤ 60) (hk : k ≤ 1000) (h : R (str (repF w k)) M) : Does Try.prog 79 [str w, .int .i64 k] M R := by
  have e : Lib.repeatL w k = repF w k := by
    unfold repF
    clear h hk
    induction k with
    | zero => rfl
    | succ k ih => rw [Lib.repeatL, ih, List.replicate_succ, List.flatten_cons]
  refine does_below (str (repF w k)) ⟨_, Try.func79, by kernel_rfl, by kernel_rfl⟩ (fun W hW => ?_) h
  rw [← e]
  refine Try.strings_Repeat ⟨⟨w⟩⟩ k W (by omega) ?_
  have hs : (⟨⟨w⟩⟩ : ByteArray).size = w.length := rfl
  rw [hs]
  have : w.length * k ≤ 60 * 1000 := Nat.mul_le_mul hl hk
  omega
theorem filledCode_does (w : List UInt8) (M : Mem) (R : Value → Mem → Prop) (hl : w.length ≤ 1099511627776) (h : ∀ M', Sub M M' → R (.int .i64 (filC w)) M') : Does Try.prog 80 [str w] M R := by
  refine does_fn tab_ok Try.func80 rfl (by kernel_rfl) (by kernel_rfl) Try.ntmps80 Try.results80 rfl ?_
  simp (disch := omega)
  intro b1 hb1
  simp (disch := omega)
  have hs1 : Sub M (M.put b1 (.cells true [str w] 1)) := (Sub.refl _).put hb1 _
  refine wordCode_does _ _ [w] true (fun _ => True) _ _ (Rd.new rfl (Nat.le_refl 1)) (fine1 hl) (by simp) trivial stab_true (always_tells _) ?_
  rw [codeOf1]
  unfold filC at h
  cases hw : isWord w
  · rw [hw] at h
    simp (disch := omega)
    exact ret_of (h _ hs1)
  · rw [hw] at h
    by_cases h0 : w = []
    · rw [if_pos rfl, if_pos h0] at h
      subst h0
      simp (disch := omega)
      exact ret_of (h _ hs1)
    · rw [if_pos rfl, if_neg h0] at h
      have he : (w == []) = false := beq_no h0
      have he2 : w.isEmpty = false := by cases w with
        | nil => exact absurd rfl h0
        | cons a l => rfl
      simp (disch := omega) [he, he2]
      exact ret_of (h _ hs1)
theorem impl_RootOf (w : List UInt8) (M : Mem) (R : Value → Mem → Prop) (hl : w.length ≤ 1099511627776) (h : ∀ M', Sub M M' → R (.tuple #[str (rootT w), .int .i64 (rootK w), .int .i64 (filC w)]) M') : Does Try.prog 20 [str w] M R := by
  unfold rootT rootK at h
  refine does_fn tab_ok Try.func20 rfl (by kernel_rfl) (by kernel_rfl) Try.ntmps20 Try.results20 rfl ?_
  simp (disch := omega)
  refine filledCode_does w _ _ hl ?_
  intro M1 s1
  by_cases hc : filC w = 0
  · rw [if_pos hc, if_pos hc, hc] at h
    rw [hc]
    have hw : isWord w = true ∧ w ≠ [] := by
      unfold filC at hc
      split at hc
      · rename_i hw
        split at hc
        · cases hc
        · rename_i h0; exact ⟨hw, h0⟩
      · cases hc
    have h60 := isWord_len hw.1
    have h1 : 1 ≤ w.length := by
      cases w with
      | nil => exact absurd rfl hw.2
      | cons a l => simp
    simp (disch := omega)
    refine root_does w _ _ h60 h1 ?_
    intro r1 r2
    have hr0 : ¬ ((rootF w).length : Int) = 0 := by omega
    have ed : ((w.length : Int).tdiv ((rootF w).length : Int)) = ((w.length / (rootF w).length : Nat) : Int) := by
      rw [Int.tdiv_eq_ediv_of_nonneg (by omega)]; rfl
    have eb : (w.length / (rootF w).length) ≤ 60 := Nat.le_trans (Nat.div_le_self _ _) h60
    generalize rootF w = r at *
    generalize w.length / r.length = q at *
    simp (disch := omega)
    refine draws [0, 1, 2, 3, 4, 5, 6, 7, 8] [0, 0, 0, 0, 0, 0, 0, 0, 0] tab_ok (by kernel_rfl) (by kernel_rfl) (by kernel_rfl) (by rfl) ?_
    simp (disch := omega)
    refine vQCall_at (a := []) (c := []) (size_does w _ _ hl ⟨rfl, rfl⟩) ?_
    simp (disch := omega)
    refine vQCall_at (a := []) (c := []) (size_does r _ _ (by omega) ⟨rfl, rfl⟩) ?_
    have hrn : ¬ r = [] := by intro e; rw [e] at r1; simp at r1
    simp (disch := omega) [hr0, hrn, ed]
    exact ret_of (h _ s1)
  · rw [if_neg hc, if_neg hc] at h
    generalize filC w = c at *
    simp (disch := omega) [hc]
    exact ret_of (h _ s1)
theorem impl_ReverseOf (w : List UInt8) (M : Mem) (R : Value → Mem → Prop) (hl : w.length ≤ 1099511627776) (h : ∀ M', Sub M M' → R (tup2 (str (if isWord w then w.reverse else [])) (wcode w)) M') : Does Try.prog 16 [str w] M R := by
  refine does_fn tab_ok Try.func16 rfl (by kernel_rfl) (by kernel_rfl) Try.ntmps16 Try.results16 rfl ?_
  simp (disch := omega)
  intro b1 hb1
  simp (disch := omega)
  have hs1 : Sub M (M.put b1 (.cells true [str w] 1)) := (Sub.refl _).put hb1 _
  refine wordCode_does _ _ [w] true (fun _ => True) _ _ (Rd.new rfl (Nat.le_refl 1)) (fine1 hl) (by simp) trivial stab_true (always_tells _) ?_
  rw [codeOf1]
  unfold tup2 wcode at h
  cases hw : isWord w
  · rw [hw] at h
    simp (disch := omega)
    exact ret_of (h _ hs1)
  · rw [hw] at h
    have h60 := isWord_len hw
    simp (disch := omega)
    refine reversed_does w _ _ (by omega) ?_
    simp (disch := omega)
    exact ret_of (h _ hs1)
theorem impl_IsPalindrome (w : List UInt8) (M : Mem) (R : Value → Mem → Prop) (hl : w.length ≤ 1099511627776) (h : ∀ M', Sub M M' → R (tup2 (.bool (isWord w && palB w)) (wcode w)) M') : Does Try.prog 23 [str w] M R := by
  refine does_fn tab_ok Try.func23 rfl (by kernel_rfl) (by kernel_rfl) Try.ntmps23 Try.results23 rfl ?_
  simp (disch := omega)
  intro b1 hb1
  simp (disch := omega)
  have hs1 : Sub M (M.put b1 (.cells true [str w] 1)) := (Sub.refl _).put hb1 _
  refine wordCode_does _ _ [w] true (fun _ => True) _ _ (Rd.new rfl (Nat.le_refl 1)) (fine1 hl) (by simp) trivial stab_true (always_tells _) ?_
  rw [codeOf1]
  unfold tup2 wcode at h
  cases hw : isWord w
  · rw [hw] at h
    simp (disch := omega)
    exact ret_of (h _ hs1)
  · rw [hw] at h
    have h60 := isWord_len hw
    simp (disch := omega)
    refine isPal_does w _ _ (by omega) ?_
    simp (disch := omega)
    exact ret_of (h _ hs1)
theorem impl_PeriodsOf (w : List UInt8) (M : Mem) (R : Value → Mem → Prop) (hl : w.length ≤ 1099511627776) (h : Lst (wcode w) (ints (if isWord w then perL w else [])) M R) : Does Try.prog 17 [str w] M R := by
  refine does_fn tab_ok Try.func17 rfl (by kernel_rfl) (by kernel_rfl) Try.ntmps17 Try.results17 rfl ?_
  simp (disch := omega)
  intro b1 hb1
  simp (disch := omega)
  have hs1 : Sub M (M.put b1 (.cells true [str w] 1)) := (Sub.refl _).put hb1 _
  refine wordCode_does _ _ [w] true (fun _ => True) _ _ (Rd.new rfl (Nat.le_refl 1)) (fine1 hl) (by simp) trivial stab_true (always_tells _) ?_
  rw [codeOf1]
  unfold wcode at h
  cases hw : isWord w
  · rw [hw] at h
    simp (disch := omega)
    exact ret_sub hs1 (h _ _ (Own.nil M))
  · rw [hw, if_pos rfl, if_pos rfl] at h
    have h60 := isWord_len hw
    simp (disch := omega)
    refine periods_does w _ _ h60 ?_
    intro v M1 o1
    obtain ⟨M2, o2, s2⟩ := o1.base hs1
    simp (disch := omega)
    exact ret_sub s2 (h _ _ o2)
theorem impl_ClosureOf (w : List UInt8) (M : Mem) (R : Value → Mem → Prop) (hl : w.length ≤ 1099511627776) (h : ∀ M', Sub M M' → R (tup2 (str (closT w)) (closC w)) M') : Does Try.prog 22 [str w] M R := by
  refine does_fn tab_ok Try.func22 rfl (by kernel_rfl) (by kernel_rfl) Try.ntmps22 Try.results22 rfl ?_
  simp (disch := omega)
  intro b1 hb1
  simp (disch := omega)
  have hs1 : Sub M (M.put b1 (.cells true [str w] 1)) := (Sub.refl _).put hb1 _
  refine wordCode_does _ _ [w] true (fun _ => True) _ _ (Rd.new rfl (Nat.le_refl 1)) (fine1 hl) (by simp) trivial stab_true (always_tells _) ?_
  rw [codeOf1]
  unfold tup2 closT closC at h
  cases hw : isWord w
  · rw [hw] at h
    simp (disch := omega)
    exact ret_of (h _ hs1)
  · rw [hw, if_pos rfl, if_pos rfl] at h
    have h60 := isWord_len hw
    have hcl := closF_len w
    simp (disch := omega)
    refine closure_does w _ _ h60 ?_
    generalize closF w = u at *
    by_cases hbig : u.length ≤ 60
    · have hb' : ¬ (60 : Int) < u.length := by omega
      rw [if_pos hbig, if_pos hbig] at h
      simp (disch := omega) [hb']
      exact ret_of (h _ hs1)
    · have hb' : (60 : Int) < u.length := by omega
      rw [if_neg hbig, if_neg hbig] at h
      simp (disch := omega) [hb']
      exact ret_of (h _ hs1)
theorem impl_PowerOf (w : List UInt8) (k : Int) (M : Mem) (R : Value → Mem → Prop) (hl : w.length ≤ 1099511627776) (h : ∀ M', Sub M M' → R (tup2 (str (pwrT w k)) (pwrC w k)) M') : Does Try.prog 19 [str w, .int .i64 k] M R := by
  refine does_fn tab_ok Try.func19 rfl (by kernel_rfl) (by kernel_rfl) Try.ntmps19 Try.results19 rfl ?_
  simp (disch := omega)
  intro b3 hb3
  simp (disch := omega)
  intro b1 hb1
  have hne : b3 ≠ b1 := by rintro rfl; rw [put_same] at hb1; cases hb1
  have k3 : ((M.put b3 (.cells true [.int .i64 k] 1)).put b1 (.cells true [str w] 1)) b3 = some (.cells true [.int .i64 k] 1) := by rw [put_ne _ _ hne]; exact put_same _ _ _
  have hs1 : Sub M ((M.put b3 (.cells true [.int .i64 k] 1)).put b1 (.cells true [str w] 1)) := ((Sub.refl _).put hb3 _).putN hb1 _
  have hrd : Rd ((M.put b3 (.cells true [.int .i64 k] 1)).put b1 (.cells true [str w] 1)) (.slice (some ⟨b1, 0, none⟩) 1 1) (strs [w]) := Rd.new rfl (Nat.le_refl 1)
  simp (disch := omega)
  generalize (M.put b3 (.cells true [.int .i64 k] 1)).put b1 (.cells true [str w] 1) = N at *
  refine wordCode_does _ _ [w] (decide (0 ≤ k ∧ k ≤ 1000)) (fun M' => M' b3 = some (.cells true [.int .i64 k] 1)) _ _ hrd (fine1 hl) (by simp) k3 ?_ ?_ ?_
  · intro K b B q hb
    have : b3 ≠ b := by rintro rfl; rw [hb] at q; cases q
    rw [put_ne _ _ this]; exact q
  · intro K R' q hR
    simp (disch := omega)
    refine does_fn tab_ok Try.func77 rfl (by kernel_rfl) (by kernel_rfl) Try.ntmps77 Try.results77 rfl ?_
    simp (disch := omega) [get_of q]
    refine within_does k 0 1000 _ _ ?_
    generalize decide (0 ≤ k ∧ k ≤ 1000) = d at *
    simp (disch := omega)
    exact ret_of hR
  · rw [codeOf1]
    unfold tup2 pwrT pwrC at h
    cases hw : isWord w
    · rw [hw] at h
      simp (disch := omega)
      exact ret_of (h _ hs1)
    · rw [hw, if_pos rfl, if_pos rfl] at h
      have h60 := isWord_len hw
      by_cases hk : 0 ≤ k ∧ k ≤ 1000
      · rw [if_pos hk, if_pos hk] at h
        rw [decide_eq_true hk]
        obtain ⟨k, rfl⟩ : ∃ n : Nat, k = n := ⟨k.toNat, by omega⟩
        rw [Int.toNat_natCast] at h
        simp (disch := omega)
        refine draws [0, 1, 2, 3, 4] [0, 0, 0, 0, 0] tab_ok (by kernel_rfl) (by kernel_rfl) (by kernel_rfl) (by rfl) ?_
        simp (disch := omega)
        refine vQCall_at (a := []) (c := []) (size_does w _ _ hl ⟨rfl, rfl⟩) ?_
        obtain ⟨z, hz⟩ : ∃ z, z = w.length * k := ⟨_, rfl⟩
        have hz' : (w.length : Int) * (k : Int) = (z : Int) := by rw [hz]; push_cast; rfl
        have hzb : z ≤ 60 * 1000 := by rw [hz]; exact Nat.mul_le_mul h60 (by omega)
        rw [hz'] at h
        by_cases hb : (z : Int) ≤ 60
        · have hb' : ¬ (60 : Int) < z := by omega
          rw [if_pos hb, if_pos hb] at h
          simp (disch := omega) [get_of k3, hz', hb']
          refine repeat_does w k _ _ h60 (by omega) ?_
          simp (disch := omega)
          exact ret_of (h _ hs1)
        · have hb' : (60 : Int) < z := by omega
          rw [if_neg hb, if_neg hb] at h
          simp (disch := omega) [get_of k3, hz', hb']
          exact ret_of (h _ hs1)
      · rw [if_neg hk, if_neg hk] at h
        rw [decide_eq_false hk]
        simp (disch := omega)
        exact ret_of (h _ hs1)
end Go.Proofs.Ytbefijbmgmbphaa

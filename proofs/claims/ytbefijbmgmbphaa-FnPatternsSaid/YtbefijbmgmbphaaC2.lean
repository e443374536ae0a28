/- Contracts: the code of words, counts of letters, comparisons of slices. -/
import Derived.Test.YtbefijbmgmbphaaC1
namespace Go.Proofs.Ytbefijbmgmbphaa
open Go
set_option linter.unusedSimpArgs false
set_option linter.unusedVariables false

def onS (q : List UInt8 → Bool) : Value → Bool
  | .string s => q (sl s)
  | _ => false
theorem onS_str (q : List UInt8 → Bool) (l : List UInt8) : onS q (str l) = q l := rfl
theorem all_strs (q : List UInt8 → Bool) (ws : List (List UInt8)) : (strs ws).all (onS q) = ws.all q := by
  induction ws with
  | nil => rfl
  | cons w ws ih => rw [strs_cons, List.all_cons, List.all_cons, onS_str, ih]
theorem mem_strs {ws : List (List UInt8)} {x : Value} (h : x ∈ strs ws) : ∃ w ∈ ws, x = str w := by
  obtain ⟨u, h1, h2⟩ := List.mem_map.1 h; exact ⟨u, h1, h2.symm⟩
/-- Strings that any memory may hold. -/
def Fine (ws : List (List UInt8)) : Prop := ∀ w ∈ ws, w.length ≤ 1099511627776
def codeOf (ws : List (List UInt8)) (b : Bool) : Int := if ws.all isWord then (if b then 0 else 2) else 1
theorem isWord_tells (ws : List (List UInt8)) (hw : Fine ws) (G : Mem → Prop) : Tells Try.prog (.func (.func 152) #[] #[]) (strs ws) (onS isWord) G := by
  intro x hx M R _ h
  obtain ⟨w, hm, rfl⟩ := mem_strs hx
  simp (disch := omega)
  exact isWord_does w M R (hw w hm) h
theorem always_tells (G : Mem → Prop) : Tells0 Try.prog (.func (.func 74) #[] #[]) true G := fun M R _ h => by
  simp (disch := omega)
  exact always_does M R h
theorem wordCode_does' (fv v : Value) (ws : List (List UInt8)) (b : Bool) (G : Mem → Prop) (M : Mem) (R : Value → Mem → Prop) (hv : Rd M v (strs ws)) (hw : Fine ws) (hn : ws.length ≤ 1099511627776) (hG : G M) (hst : Stab G)
    (hf : ws.all isWord = true → Tells0 Try.prog fv b G) (h : R (.int .i64 (codeOf ws b)) M) : Does Try.prog 73 [fv, v] M R := by
  refine does_fn tab_ok Try.func73 rfl (by kernel_rfl) (by kernel_rfl) Try.ntmps73 Try.results73 rfl ?_
  simp (disch := omega)
  refine areAllS_does _ _ (strs ws) (onS isWord) G _ _ hv hG hst (isWord_tells ws hw G) rfl (by rw [strs_length]; exact hn) ?_
  rw [all_strs]
  unfold codeOf at h
  cases hb : ws.all isWord
  · rw [hb] at h
    simp (disch := omega)
    exact ret_of h
  · rw [hb] at h
    simp (disch := omega)
    refine hf hb _ _ hG ?_
    cases b
    · simp (disch := omega)
      exact ret_of h
    · simp (disch := omega)
      exact ret_of h
theorem wordCode_does (fv v : Value) (ws : List (List UInt8)) (b : Bool) (G : Mem → Prop) (M : Mem) (R : Value → Mem → Prop) (hv : Rd M v (strs ws)) (hw : Fine ws) (hn : ws.length ≤ 1099511627776) (hG : G M) (hst : Stab G)
    (hf : Tells0 Try.prog fv b G) (h : R (.int .i64 (codeOf ws b)) M) : Does Try.prog 73 [fv, v] M R := wordCode_does' fv v ws b G M R hv hw hn hG hst (fun _ => hf) h
/-- How often each of the letters a to e stands in a word. -/
def cnt (l : List UInt8) (k : Nat) : Int := (l.countP fun u => u.toNat == 97 + k)
def counts (l : List UInt8) : List Int := [cnt l 0, cnt l 1, cnt l 2, cnt l 3, cnt l 4]
theorem counts_nil : counts [] = [0, 0, 0, 0, 0] := rfl
theorem counts_length (l : List UInt8) : (counts l).length = 5 := rfl
theorem isL_range {u : UInt8} (h : isL u = true) : 97 ≤ u.toNat ∧ u.toNat ≤ 101 := by
  unfold isL at h
  simp only [Bool.and_eq_true, decide_eq_true_eq] at h
  omega
theorem cnt_snoc (l : List UInt8) (u : UInt8) (k : Nat) : cnt (l ++ [u]) k = cnt l k + if u.toNat = 97 + k then 1 else 0 := by
  unfold cnt
  rw [List.countP_append]
  simp only [List.countP_cons, List.countP_nil, beq_iff_eq]
  split <;> simp
theorem cnt_le (l : List UInt8) (k : Nat) : 0 ≤ cnt l k ∧ cnt l k ≤ l.length := by
  unfold cnt
  have := List.countP_le_length (p := fun u : UInt8 => u.toNat == 97 + k) (l := l)
  omega
theorem counts_snoc (l : List UInt8) (u : UInt8) (h : isL u = true) : counts (l ++ [u]) = (counts l).set (u.toNat - 97) (cnt l (u.toNat - 97) + 1) := by
  have hr := isL_range h
  unfold counts
  simp only [cnt_snoc]
  have : u.toNat = 97 ∨ u.toNat = 98 ∨ u.toNat = 99 ∨ u.toNat = 100 ∨ u.toNat = 101 := by omega
  rcases this with e | e | e | e | e <;> simp [e]
theorem counts_get (l : List UInt8) {k : Nat} (h : k < 5) : (counts l)[k]? = some (cnt l k) := by
  match k, h with
  | 0, _ => rfl
  | 1, _ => rfl
  | 2, _ => rfl
  | 3, _ => rfl
  | 4, _ => rfl
theorem take_snoc {α : Type} (l : List α) {i : Nat} (h : i < l.length) : l.take (i + 1) = l.take i ++ [l[i]] := List.take_succ_eq_append_getElem h
theorem count_does (l : List UInt8) (M : Mem) (R : Value → Mem → Prop) (hl : l.length ≤ 1099511627776) (hw : l.all isL = true)
    (h : ∀ v M', Own M v (ints (counts l)) M' → R v M') : Does Try.prog 189 [str l] M R := by
  refine does_fn tab_ok Try.func189 rfl (by kernel_rfl) (by kernel_rfl) Try.ntmps189 Try.results189 rfl ?_
  simp (disch := omega)
  intro b1 hb1
  simp (disch := omega)
  intro b2 c hb2 hc
  rw [put_none] at hb2
  obtain ⟨h12, hb2⟩ := hb2
  simp (disch := omega)
  have hb2' : (M.put b1 (.cells true (ints (counts l)) 5)) b2 = none := by rw [put_none]; exact ⟨h12, hb2⟩
  refine loop_to tab_ok [5, 10, 11, 12, 13, 14, 15, 16, 17, 18, 19, 20, 21] (fun i : Nat => [(10, .int .i64 i)])
    (fun i M' => i ≤ l.length ∧ M' = (M.put b1 (.cells true (ints (counts (l.take i))) 5)).put b2 (.cells true (bytesV l) c)) (fun i => l.length - i) 0 (by kernel_rfl) (by simp (disch := omega)) ⟨by omega, ?_⟩ ?_
  · rfl
  rintro i M' g ⟨hi, rfl⟩
  by_cases hlt : i < l.length
  · have hx : l[i]? = some l[i] := List.getElem?_eq_getElem hlt
    have hu := l[i].toNat_lt
    have hL : isL l[i] = true := List.all_eq_true.1 hw _ (List.getElem_mem hlt)
    have hr := isL_range hL
    have hk : ((l[i].toNat : Int) - 97).toNat = l[i].toNat - 97 := by omega
    have hg := counts_get (l.take i) (k := l[i].toNat - 97) (by omega)
    have hcl := cnt_le (l.take i) (l[i].toNat - 97)
    have htl : (l.take i).length ≤ l.length := by rw [List.length_take]; omega
    simp (disch := omega) [hx]
    refine number_does _ _ _ ?_
    simp (disch := omega) [hk, hg, counts_length]
    refine Rnd.mk' (i + 1) (by omega) (by (repeat (first | exact km | refine kp rfl ?_ | refine km' rfl ?_))) (by simp (disch := omega)) ⟨by omega, ?_⟩
    rw [ints_set, take_snoc l hlt, counts_snoc _ _ hL]
  · have hi' : i = l.length := by omega
    subst hi'
    simp (disch := omega)
    refine ret_sub ?_ (h _ _ (Own.new (c := 5) hb1 rfl (Nat.le_refl 5)))
    exact (Sub.refl _).put hb2' _
theorem sub_getN {M : Mem} {b o : Nat} {xs : List Value} (h : M.sub? b o xs.length = some xs) {i : Nat} : i < xs.length → M.get? b (o + i) = xs[i]? := by
  intro hi
  rw [sub_get h (List.getElem?_eq_getElem hi), List.getElem?_eq_getElem hi]
theorem take_beq {α : Type} [BEq α] [LawfulBEq α] {xs ys : List α} (hl : xs.length = ys.length) (h : xs.take xs.length = ys.take xs.length) : xs = ys := by
  rw [List.take_length, hl, List.take_length] at h; exact h
theorem eqInt64S_does (v v' : Value) (xs ys : List Int) (M : Mem) (R : Value → Mem → Prop) (hx : Rd M v (ints xs)) (hy : Rd M v' (ints ys)) (hl : xs.length ≤ 1099511627776) (hl' : ys.length ≤ 1099511627776)
    (h : R (.bool (xs == ys)) M) : Does Try.prog 46 [v, v'] M R := by
  refine does_fn tab_ok Try.func46 rfl (by kernel_rfl) (by kernel_rfl) Try.ntmps46 Try.results46 rfl ?_
  have lenv : ∀ (v : Value) (zs : List Int), Rd M v (ints zs) → ∃ a c, v = .slice a zs.length c ∧ (zs.length = 0 ∨ ∃ b o, a = some ⟨b, o, none⟩ ∧ M.sub? b o (ints zs).length = some (ints zs)) := by
    rintro v zs (⟨a0, c0, rfl, h2⟩ | ⟨b, o, c, rfl, h2, h3⟩)
    · have : zs.length = 0 := by have := congrArg List.length h2; simpa using this
      exact ⟨a0, c0, by rw [this], .inl this⟩
    · exact ⟨_, c, by rw [ints_length], .inr ⟨b, o, rfl, h2⟩⟩
  obtain ⟨a, c, rfl, ha⟩ := lenv v xs hx
  obtain ⟨a', c', rfl, ha'⟩ := lenv v' ys hy
  by_cases hne : xs.length = ys.length
  · simp (disch := omega) [hne]
    refine loop_to tab_ok [4, 5, 11, 12, 13, 14, 15, 16, 17, 18, 19, 20, 21, 22, 23, 24, 25] (fun i : Nat => [(5, .int .i64 i)]) (fun i M' => M' = M ∧ i ≤ xs.length ∧ xs.take i = ys.take i) (fun i => xs.length - i) 0 (by kernel_rfl) (by simp (disch := omega)) ⟨rfl, by omega, rfl⟩ ?_
    rintro i M' g ⟨rfl, hi, he⟩
    by_cases hlt : i < xs.length
    · rcases ha with h0 | ⟨b, o, rfl, hs⟩
      · omega
      rcases ha' with h0 | ⟨b', o', rfl, hs'⟩
      · omega
      have hg := sub_getN hs (i := i) (by rw [ints_length]; omega)
      have hg' := sub_getN hs' (i := i) (by rw [ints_length]; omega)
      have hx : xs[i]? = some xs[i] := List.getElem?_eq_getElem hlt
      have hlt' : i < ys.length := by omega
      have hy : ys[i]? = some ys[i] := List.getElem?_eq_getElem hlt'
      simp (disch := omega) [hne]
      refine draw_to tab_ok (by kernel_rfl) (by kernel_rfl) (by rfl) ?_
      simp (disch := omega) [hg, hg', hx, hy]
      by_cases hq : xs[i] = ys[i]
      · have hq' : (xs[i] == ys[i]) = true := by rw [hq]; exact beq_self_eq_true _
        simp (disch := omega) [hq']
        refine Rnd.mk' (i + 1) (by omega) (by (repeat (first | exact km | refine kp rfl ?_ | refine km' rfl ?_))) (by simp (disch := omega)) ⟨rfl, by omega, ?_⟩
        rw [take_snoc xs hlt, take_snoc ys hlt', he, hq]
      · have hq' : (xs[i] == ys[i]) = false := beq_eq_false_iff_ne.2 hq
        simp (disch := omega) [hq']
        refine ret_of ?_
        have : (xs == ys) = false := by
          rw [beq_eq_false_iff_ne]; rintro rfl; exact hq rfl
        rw [this] at h; exact h
    · have hi' : i = xs.length := by omega
      subst hi'
      simp (disch := omega) [hne]
      refine ret_of ?_
      have : xs = ys := take_beq hne he
      subst this
      simpa using h
  · simp (disch := omega) [hne]
    refine ret_of ?_
    have : (xs == ys) = false := by
      rw [beq_eq_false_iff_ne]; rintro rfl; exact hne rfl
    rw [this] at h; exact h
theorem eqStringS_does (v v' : Value) (xs ys : List (List UInt8)) (M : Mem) (R : Value → Mem → Prop) (hx : Rd M v (strs xs)) (hy : Rd M v' (strs ys)) (hl : xs.length ≤ 1099511627776) (hl' : ys.length ≤ 1099511627776)
    (h : R (.bool (xs == ys)) M) : Does Try.prog 26 [v, v'] M R := by
  refine does_fn tab_ok Try.func26 rfl (by kernel_rfl) (by kernel_rfl) Try.ntmps26 Try.results26 rfl ?_
  have lenv : ∀ (v : Value) (zs : List (List UInt8)), Rd M v (strs zs) → ∃ a c, v = .slice a zs.length c ∧ (zs.length = 0 ∨ ∃ b o, a = some ⟨b, o, none⟩ ∧ M.sub? b o (strs zs).length = some (strs zs)) := by
    rintro v zs (⟨a0, c0, rfl, h2⟩ | ⟨b, o, c, rfl, h2, h3⟩)
    · have : zs.length = 0 := by have := congrArg List.length h2; simpa using this
      exact ⟨a0, c0, by rw [this], .inl this⟩
    · exact ⟨_, c, by rw [strs_length], .inr ⟨b, o, rfl, h2⟩⟩
  obtain ⟨a, c, rfl, ha⟩ := lenv v xs hx
  obtain ⟨a', c', rfl, ha'⟩ := lenv v' ys hy
  by_cases hne : xs.length = ys.length
  · simp (disch := omega) [hne]
    refine loop_to tab_ok [4, 5, 11, 12, 13, 14, 15, 16, 17, 18, 19, 20, 21, 22, 23, 24, 25] (fun i : Nat => [(5, .int .i64 i)]) (fun i M' => M' = M ∧ i ≤ xs.length ∧ xs.take i = ys.take i) (fun i => xs.length - i) 0 (by kernel_rfl) (by simp (disch := omega)) ⟨rfl, by omega, rfl⟩ ?_
    rintro i M' g ⟨rfl, hi, he⟩
    by_cases hlt : i < xs.length
    · rcases ha with h0 | ⟨b, o, rfl, hs⟩
      · omega
      rcases ha' with h0 | ⟨b', o', rfl, hs'⟩
      · omega
      have hg := sub_getN hs (i := i) (by rw [strs_length]; omega)
      have hg' := sub_getN hs' (i := i) (by rw [strs_length]; omega)
      have hx : xs[i]? = some xs[i] := List.getElem?_eq_getElem hlt
      have hlt' : i < ys.length := by omega
      have hy : ys[i]? = some ys[i] := List.getElem?_eq_getElem hlt'
      simp (disch := omega) [hne]
      refine draw_to tab_ok (by kernel_rfl) (by kernel_rfl) (by rfl) ?_
      simp (disch := omega) [hg, hg', hx, hy]
      by_cases hq : xs[i] = ys[i]
      · have hq' : (xs[i] == ys[i]) = true := by rw [hq]; exact beq_self_eq_true _
        simp (disch := omega) [hq']
        refine Rnd.mk' (i + 1) (by omega) (by (repeat (first | exact km | refine kp rfl ?_ | refine km' rfl ?_))) (by simp (disch := omega)) ⟨rfl, by omega, ?_⟩
        rw [take_snoc xs hlt, take_snoc ys hlt', he, hq]
      · have hq' : (xs[i] == ys[i]) = false := beq_eq_false_iff_ne.2 hq
        simp (disch := omega) [hq']
        refine ret_of ?_
        have : (xs == ys) = false := by
          rw [beq_eq_false_iff_ne]; rintro rfl; exact hq rfl
        rw [this] at h; exact h
    · have hi' : i = xs.length := by omega
      subst hi'
      simp (disch := omega) [hne]
      refine ret_of ?_
      have : xs = ys := take_beq hne he
      subst this
      simpa using h
  · simp (disch := omega) [hne]
    refine ret_of ?_
    have : (xs == ys) = false := by
      rw [beq_eq_false_iff_ne]; rintro rfl; exact hne rfl
    rw [this] at h; exact h
theorem likeInts_does (v v' : Value) (xs ys : List Int) (M : Mem) (R : Value → Mem → Prop) (hx : Rd M v (ints xs)) (hy : Rd M v' (ints ys)) (hl : xs.length ≤ 1099511627776) (hl' : ys.length ≤ 1099511627776)
    (h : R (.bool (xs == ys)) M) : Does Try.prog 18 [v, v'] M R := by
  refine does_fn tab_ok Try.func18 rfl (by kernel_rfl) (by kernel_rfl) Try.ntmps18 Try.results18 rfl ?_
  have lenv : ∀ (v : Value) (zs : List Int), Rd M v (ints zs) → ∃ a c, v = .slice a zs.length c ∧ (zs.length = 0 ∨ ∃ b o, a = some ⟨b, o, none⟩ ∧ M.sub? b o (ints zs).length = some (ints zs)) := by
    rintro v zs (⟨a0, c0, rfl, h2⟩ | ⟨b, o, c, rfl, h2, h3⟩)
    · have : zs.length = 0 := by have := congrArg List.length h2; simpa using this
      exact ⟨a0, c0, by rw [this], .inl this⟩
    · exact ⟨_, c, by rw [ints_length], .inr ⟨b, o, rfl, h2⟩⟩
  obtain ⟨a, c, rfl, ha⟩ := lenv v xs hx
  obtain ⟨a', c', rfl, ha'⟩ := lenv v' ys hy
  by_cases hne : xs.length = ys.length
  · simp (disch := omega) [hne]
    refine loop_to tab_ok [4, 5, 11, 12, 13, 14, 15, 16, 17, 18, 19, 20, 21, 22, 23, 24, 25] (fun i : Nat => [(5, .int .i64 i)]) (fun i M' => M' = M ∧ i ≤ xs.length ∧ xs.take i = ys.take i) (fun i => xs.length - i) 0 (by kernel_rfl) (by simp (disch := omega)) ⟨rfl, by omega, rfl⟩ ?_
    rintro i M' g ⟨rfl, hi, he⟩
    by_cases hlt : i < xs.length
    · rcases ha with h0 | ⟨b, o, rfl, hs⟩
      · omega
      rcases ha' with h0 | ⟨b', o', rfl, hs'⟩
      · omega
      have hg := sub_getN hs (i := i) (by rw [ints_length]; omega)
      have hg' := sub_getN hs' (i := i) (by rw [ints_length]; omega)
      have hx : xs[i]? = some xs[i] := List.getElem?_eq_getElem hlt
      have hlt' : i < ys.length := by omega
      have hy : ys[i]? = some ys[i] := List.getElem?_eq_getElem hlt'
      simp (disch := omega) [hne]
      refine draw_to tab_ok (by kernel_rfl) (by kernel_rfl) (by rfl) ?_
      simp (disch := omega) [hg, hg', hx, hy]
      by_cases hq : xs[i] = ys[i]
      · have hq' : (xs[i] == ys[i]) = true := by rw [hq]; exact beq_self_eq_true _
        simp (disch := omega) [hq']
        refine Rnd.mk' (i + 1) (by omega) (by (repeat (first | exact km | refine kp rfl ?_ | refine km' rfl ?_))) (by simp (disch := omega)) ⟨rfl, by omega, ?_⟩
        rw [take_snoc xs hlt, take_snoc ys hlt', he, hq]
      · have hq' : (xs[i] == ys[i]) = false := beq_eq_false_iff_ne.2 hq
        simp (disch := omega) [hq']
        refine ret_of ?_
        have : (xs == ys) = false := by
          rw [beq_eq_false_iff_ne]; rintro rfl; exact hq rfl
        rw [this] at h; exact h
    · have hi' : i = xs.length := by omega
      subst hi'
      simp (disch := omega) [hne]
      refine ret_of ?_
      have : xs = ys := take_beq hne he
      subst this
      simpa using h
  · simp (disch := omega) [hne]
    refine ret_of ?_
    have : (xs == ys) = false := by
      rw [beq_eq_false_iff_ne]; rintro rfl; exact hne rfl
    rw [this] at h; exact h
end Go.Proofs.Ytbefijbmgmbphaa

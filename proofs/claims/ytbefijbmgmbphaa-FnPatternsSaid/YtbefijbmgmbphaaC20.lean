/- Contracts: least and greatest lengths of images, and the test length. -/
import Derived.Test.YtbefijbmgmbphaaC18
namespace Go.Proofs.Ytbefijbmgmbphaa
open Go
set_option linter.unusedSimpArgs false
set_option linter.unusedVariables false

/-- The least and the greatest of some numbers. -/
def mnL : List Nat → Nat
  | [] => 0
  | a :: l => l.foldl Nat.min a
def mxL : List Nat → Nat
  | [] => 0
  | a :: l => l.foldl Nat.max a
theorem mnL_snoc {l : List Nat} (h : 1 ≤ l.length) (a : Nat) : mnL (l ++ [a]) = Nat.min (mnL l) a := by
  cases l with
  | nil => simp at h
  | cons b l => simp [mnL]
theorem mxL_snoc {l : List Nat} (h : 1 ≤ l.length) (a : Nat) : mxL (l ++ [a]) = Nat.max (mxL l) a := by
  cases l with
  | nil => simp at h
  | cons b l => simp [mxL]
theorem mnL_one (a : Nat) : mnL [a] = a := rfl
theorem mxL_one (a : Nat) : mxL [a] = a := rfl
theorem mn_int (a b : Nat) : (if b < a then (b : Int) else a) = (Nat.min a b : Nat) := by
  show _ = ((min a b : Nat) : Int)
  split <;> omega
theorem mx_int (a b : Nat) : (if a < b then (b : Int) else a) = (Nat.max a b : Nat) := by
  show _ = ((max a b : Nat) : Int)
  split <;> omega
def lens (ws : List (List UInt8)) : List Nat := ws.map List.length
theorem lens_length (ws : List (List UInt8)) : (lens ws).length = ws.length := by simp [lens]
theorem lens_snoc (ws : List (List UInt8)) (w : List UInt8) : lens (ws ++ [w]) = lens ws ++ [w.length] := by simp [lens]
theorem lens_take (ws : List (List UInt8)) (i : Nat) : lens (ws.take i) = (lens ws).take i := by simp [lens, List.map_take]
theorem foldmin_le : ∀ (l : List Nat) (a : Nat), l.foldl Nat.min a ≤ a ∧ ∀ x ∈ l, l.foldl Nat.min a ≤ x
  | [], a => ⟨Nat.le_refl a, fun _ h => by cases h⟩
  | b :: l, a => by
    obtain ⟨h1, h2⟩ := foldmin_le l (Nat.min a b)
    have e : Nat.min a b = min a b := rfl
    refine ⟨by rw [List.foldl_cons]; omega, fun x hx => ?_⟩
    rw [List.foldl_cons]
    rcases List.mem_cons.1 hx with rfl | hx
    · omega
    · exact h2 x hx
theorem foldmax_le : ∀ (l : List Nat) (a : Nat), a ≤ l.foldl Nat.max a ∧ ∀ x ∈ l, x ≤ l.foldl Nat.max a
  | [], a => ⟨Nat.le_refl a, fun _ h => by cases h⟩
  | b :: l, a => by
    obtain ⟨h1, h2⟩ := foldmax_le l (Nat.max a b)
    have e : Nat.max a b = max a b := rfl
    refine ⟨by rw [List.foldl_cons]; omega, fun x hx => ?_⟩
    rw [List.foldl_cons]
    rcases List.mem_cons.1 hx with rfl | hx
    · omega
    · exact h2 x hx
theorem mnL_le {l : List Nat} {x : Nat} (h : x ∈ l) : mnL l ≤ x := by
  cases l with
  | nil => cases h
  | cons a l =>
    rcases List.mem_cons.1 h with rfl | h
    · exact (foldmin_le l x).1
    · exact (foldmin_le l a).2 x h
theorem le_mxL {l : List Nat} {x : Nat} (h : x ∈ l) : x ≤ mxL l := by
  cases l with
  | nil => cases h
  | cons a l =>
    rcases List.mem_cons.1 h with rfl | h
    · exact (foldmax_le l x).1
    · exact (foldmax_le l a).2 x h
theorem fold_all : ∀ (l : List Nat) (a : Nat), (∀ x ∈ l, x = a) → l.foldl Nat.min a = a ∧ l.foldl Nat.max a = a
  | [], a, _ => ⟨rfl, rfl⟩
  | b :: l, a, h => by
    have hb : b = a := h b (List.mem_cons_self ..)
    subst hb
    have ih := fold_all l b fun x hx => h x (List.mem_cons_of_mem _ hx)
    have e1 : Nat.min b b = b := Nat.min_self b
    have e2 : Nat.max b b = b := Nat.max_self b
    rw [List.foldl_cons, List.foldl_cons, e1, e2]
    exact ih
theorem fold_mem : ∀ (l : List Nat) (a : Nat), l.foldl Nat.max a ∈ a :: l
  | [], a => List.mem_cons_self ..
  | b :: l, a => by
    rw [List.foldl_cons]
    have := fold_mem l (Nat.max a b)
    have e : Nat.max a b = a ∨ Nat.max a b = b := by show max a b = a ∨ max a b = b; omega
    rcases List.mem_cons.1 this with h | h
    · rw [h]; rcases e with e | e <;> rw [e] <;> simp
    · exact List.mem_cons_of_mem _ (List.mem_cons_of_mem _ h)
theorem mxL_mem {l : List Nat} (h : 1 ≤ l.length) : mxL l ∈ l := by
  cases l with
  | nil => simp at h
  | cons a l => exact fold_mem l a
def fstL (l : List Nat) : Nat := l.headD 0
def sameL (l : List Nat) : Bool := l.all fun x => x == fstL l
theorem sameL_iff {l : List Nat} (h : 1 ≤ l.length) : sameL l = (mnL l == mxL l) := by
  cases l with
  | nil => simp at h
  | cons a l =>
    rw [Bool.eq_iff_iff, beq_iff_eq]
    unfold sameL
    rw [List.all_eq_true]
    constructor
    · intro hs
      have := fold_all l a fun x hx => by have := hs x (List.mem_cons_of_mem _ hx); rw [beq_iff_eq] at this; exact this
      show l.foldl Nat.min a = l.foldl Nat.max a
      rw [this.1, this.2]
    · intro he x hx
      have h1 := mnL_le hx
      have h2 := le_mxL hx
      have h3 := mnL_le (List.mem_cons_self .. : a ∈ a :: l)
      have h4 := le_mxL (List.mem_cons_self .. : a ∈ a :: l)
      rw [beq_iff_eq]
      show x = a
      omega
def uniB (ws : List (List UInt8)) : Bool := isMor ws && (mnL (lens ws) == mxL (lens ws))
def morC (ws : List (List UInt8)) : Int := if isMor ws then 0 else 1
/-- The test length, 0 where an image is empty. -/
def testN (ws : List (List UInt8)) : Nat := if mnL (lens ws) = 0 then 0 else max 3 ((mxL (lens ws) - 3 + mnL (lens ws) - 1) / mnL (lens ws) + 1)
def testT (ws : List (List UInt8)) : Nat := if isMor ws then testN ws else 0
def testC (ws : List (List UInt8)) : Int := if isMor ws then (if testN ws = 0 then 5 else 0) else 1
theorem lens_le {ws : List (List UInt8)} (h : isMor ws = true) : mnL (lens ws) ≤ 12 ∧ mxL (lens ws) ≤ 12 ∧ mnL (lens ws) ≤ mxL (lens ws) := by
  have h1 := mor_len h
  have h2 := mxL_mem (l := lens ws) (by rw [lens_length]; omega)
  obtain ⟨w, hw, he⟩ := List.mem_map.1 h2
  have := (mor_ok h hw).1
  have := mnL_le h2
  omega
theorem natsV_snoc (l : List Nat) (a : Nat) : natsV l ++ [.int .i64 a] = natsV (l ++ [a]) := by simp [natsV]
theorem take_one {α : Type} {l : List α} (h : 0 < l.length) : l.take 1 = [l[0]] := by
  cases l with
  | nil => simp at h
  | cons a l => rfl
theorem lengths_does (v : Value) (ws : List (List UInt8)) (M : Mem) (R : Value → Mem → Prop) (hv : Rd M v (strs ws)) (hf : Fine ws) (hn : ws.length ≤ 1000000) (h : ∀ v' M', Own M v' (natsV (lens ws)) M' → R v' M') : Does Try.prog 149 [.agg #[v]] M R := by
  refine does_fn tab_ok Try.func149 rfl (by kernel_rfl) (by kernel_rfl) Try.ntmps149 Try.results149 rfl ?_
  obtain ⟨a, c, rfl, ha⟩ := hv.opened
  rw [strs_length] at ha hv ⊢
  simp (disch := omega)
  intro b1 hb1
  have hs1 : Sub M (M.put b1 (.cells true [.slice a ws.length c] 1)) := (Sub.refl M).put hb1 _
  simp (disch := omega)
  generalize M.put b1 (.cells true [.slice a ws.length c] 1) = N at *
  refine loop_to tab_ok [3, 5, 9, 10, 11, 12, 13, 14, 15, 16, 17, 18] (fun x : Nat × Value => [(9, .int .i64 x.1), (3, x.2)]) (fun x M' => x.1 ≤ ws.length ∧ Own N x.2 (natsV (lens (ws.take x.1))) M') (fun x => ws.length - x.1) (0, .slice none 0 0) (by kernel_rfl) (by simp (disch := omega)) ⟨by simp, Own.nil _⟩ ?_
  rintro ⟨i, v⟩ M' g ⟨hi, ho⟩
  simp only at hi ho
  by_cases hlt : i < ws.length
  · rcases ha with h0 | ⟨b, o, rfl, ha⟩
    · omega
    have hg0 := ha i hlt
    rw [strs_get, List.getElem?_eq_getElem hlt] at hg0
    have hg := get_keep (get_keep hg0 hs1) ho.sub
    have hw := hf _ (List.getElem_mem hlt)
    have hle : (natsV (lens (ws.take i))).length ≤ 1000000 := by rw [natsV_length, lens_length, List.length_take]; omega
    simp (disch := omega) [hg]
    refine size_does _ _ _ hw ?_
    simp (disch := omega)
    intro b' hb'
    simp (disch := omega)
    refine app_own ho ((Sub.refl _).put hb' _) (by simp (disch := omega); rfl) rfl rfl (by omega) (by simp (disch := omega)) (by simp (disch := omega); omega) ?_
    intro v' M'' N'' ho' hs'
    simp (disch := omega)
    refine Rnd.mk'' M'' (i + 1, v') hs' (by simp only; omega) (by (repeat (first | exact km | refine kp rfl ?_ | refine km' rfl ?_))) (by simp (disch := omega)) ⟨by simp only; omega, ?_⟩
    rw [natsV_snoc, ← lens_snoc, ← take_snoc ws hlt] at ho'
    exact ho'
  · have hi' : i = ws.length := by omega
    subst hi'
    simp (disch := omega)
    rw [List.take_length] at ho
    obtain ⟨M'', ho', hs'⟩ := ho.base hs1
    exact ret_sub hs' (h v M'' ho')
theorem Min_does (v : Value) (ns : List Nat) (M : Mem) (R : Value → Mem → Prop) (hv : Rd M v (natsV ns)) (h1 : 1 ≤ ns.length) (hl : ns.length ≤ 1000000) (h : R (.int .i64 (mnL ns)) M) : Does Try.prog 148 [v] M R := by
  refine does_fn tab_ok Try.func148 rfl (by kernel_rfl) (by kernel_rfl) Try.ntmps148 Try.results148 rfl ?_
  obtain ⟨a, c, rfl, ha⟩ := hv.opened
  rw [natsV_length] at ha ⊢
  rcases ha with h0 | ⟨b, o, rfl, ha⟩
  · omega
  have hg0 := ha 0 (by omega)
  rw [natsV_get, List.getElem?_eq_getElem (by omega), Nat.add_zero] at hg0
  simp (disch := omega) [hg0]
  refine loop_to tab_ok [3, 4, 12, 13, 14, 15, 16, 17, 18, 19, 20, 21, 22, 23] (fun i : Nat => [(4, .int .i64 i), (3, .int .i64 (mnL (ns.take i)))]) (fun i M' => M' = M ∧ 1 ≤ i ∧ i ≤ ns.length) (fun i => ns.length - i) 1 (by kernel_rfl) (by rw [take_one (by omega)]; simp (disch := omega) [mnL_one]) ⟨rfl, by omega, h1⟩ ?_
  rintro i M' g ⟨rfl, hi1, hi⟩
  by_cases hlt : i < ns.length
  · have hg := ha i hlt
    rw [natsV_get, List.getElem?_eq_getElem hlt] at hg
    simp (disch := omega) [hg, mn_int]
    refine Rnd.mk' (i + 1) (by omega) (by (repeat (first | exact km | refine kp rfl ?_ | refine km' rfl ?_))) ?_ ⟨rfl, by omega, by omega⟩
    rw [take_snoc ns hlt, mnL_snoc (by rw [List.length_take]; omega)]
    simp (disch := omega) [mn_int]
  · have hi' : i = ns.length := by omega
    subst hi'
    rw [List.take_length]
    simp (disch := omega)
    exact ret_of h
theorem Max_does (v : Value) (ns : List Nat) (M : Mem) (R : Value → Mem → Prop) (hv : Rd M v (natsV ns)) (h1 : 1 ≤ ns.length) (hl : ns.length ≤ 1000000) (h : R (.int .i64 (mxL ns)) M) : Does Try.prog 150 [v] M R := by
  refine does_fn tab_ok Try.func150 rfl (by kernel_rfl) (by kernel_rfl) Try.ntmps150 Try.results150 rfl ?_
  obtain ⟨a, c, rfl, ha⟩ := hv.opened
  rw [natsV_length] at ha ⊢
  rcases ha with h0 | ⟨b, o, rfl, ha⟩
  · omega
  have hg0 := ha 0 (by omega)
  rw [natsV_get, List.getElem?_eq_getElem (by omega), Nat.add_zero] at hg0
  simp (disch := omega) [hg0]
  refine loop_to tab_ok [3, 4, 12, 13, 14, 15, 16, 17, 18, 19, 20, 21, 22, 23] (fun i : Nat => [(4, .int .i64 i), (3, .int .i64 (mxL (ns.take i)))]) (fun i M' => M' = M ∧ 1 ≤ i ∧ i ≤ ns.length) (fun i => ns.length - i) 1 (by kernel_rfl) (by rw [take_one (by omega)]; simp (disch := omega) [mxL_one]) ⟨rfl, by omega, h1⟩ ?_
  rintro i M' g ⟨rfl, hi1, hi⟩
  by_cases hlt : i < ns.length
  · have hg := ha i hlt
    rw [natsV_get, List.getElem?_eq_getElem hlt] at hg
    simp (disch := omega) [hg, mx_int]
    refine Rnd.mk' (i + 1) (by omega) (by (repeat (first | exact km | refine kp rfl ?_ | refine km' rfl ?_))) ?_ ⟨rfl, by omega, by omega⟩
    rw [take_snoc ns hlt, mxL_snoc (by rw [List.length_take]; omega)]
    simp (disch := omega) [mx_int]
  · have hi' : i = ns.length := by omega
    subst hi'
    rw [List.take_length]
    simp (disch := omega)
    exact ret_of h
theorem fine0 : Fine [] := by intro w hw; cases hw
theorem rd_nil (M : Mem) : Rd M (.slice none 0 0) [] := (Own.nil M).rd
theorem morphismCode0_does (v : Value) (ws : List (List UInt8)) (M : Mem) (R : Value → Mem → Prop) (hv : Rd M v (strs ws)) (hf : Fine ws) (hn : ws.length ≤ 1099511627776) (h : R (.int .i64 (morC ws)) M) : Does Try.prog 136 [.agg #[v], .func (.func 74) #[] #[], .slice none 0 0] M R := by
  refine morphismCode_does v _ _ ws [] true (fun _ => True) M R hv hf hn (rd_nil M) fine0 (by simp) rfl trivial stab_true (always_tells _) ?_
  have e : codeOf [] ([].all (fun u => fewB u ws.length) && true) = 0 := rfl
  rw [e]
  exact h
theorem impl_IsUniform (v : Value) (ws : List (List UInt8)) (M : Mem) (R : Value → Mem → Prop) (hv : Rd M v (strs ws)) (hf : Fine ws) (hn : ws.length ≤ 1099511627776) (h : R (tup2 (.bool (uniB ws)) (morC ws)) M) : Does Try.prog 64 [.agg #[v]] M R := by
  refine does_fn tab_ok Try.func64 rfl (by kernel_rfl) (by kernel_rfl) Try.ntmps64 Try.results64 rfl ?_
  obtain ⟨a, c, rfl, ha⟩ := hv.opened
  rw [strs_length] at hv ⊢
  simp (disch := omega)
  intro b1 hb1
  have hs1 : Sub M (M.put b1 (.cells true [.slice a ws.length c] 1)) := (Sub.refl M).put hb1 _
  have hv1 := hv.put hb1 (.cells true [.slice a ws.length c] 1)
  have k1 : (M.put b1 (.cells true [.slice a ws.length c] 1)) b1 = some (.cells true [.slice a ws.length c] 1) := put_same _ _ _
  simp (disch := omega)
  generalize M.put b1 (.cells true [.slice a ws.length c] 1) = N at *
  refine morphismCode0_does _ ws _ _ hv1 hf hn ?_
  unfold uniB morC at h
  unfold morC
  cases hm : isMor ws
  · rw [hm] at h
    simp (disch := omega)
    exact ret_sub hs1 h
  · rw [hm, Bool.true_and, if_pos rfl] at h
    have h15 := mor_len hm
    have hll := lens_length ws
    simp (disch := omega)
    refine draws_at [0, 3, 1, 2, 4, 5, 6, 7, 8] 2 2 tab_ok (by kernel_rfl) (by kernel_rfl) (by rfl) ?_
    simp (disch := omega) [sub_of k1]
    refine lengths_does _ ws _ _ hv1 hf (by omega) ?_
    intro v2 N2 o2
    simp (disch := omega)
    refine ⟨o2.sub, ?_⟩
    refine Min_does _ _ _ _ o2.rd (by omega) (by omega) ?_
    simp (disch := omega)
    refine ⟨o2.sub, ?_⟩
    refine lengths_does _ ws _ _ (hv1.sub o2.sub) hf (by omega) ?_
    intro v3 N3 o3
    simp (disch := omega)
    refine Max_does _ _ _ _ o3.rd (by omega) (by omega) ?_
    simp (disch := omega)
    refine ret_sub ((hs1.trans o2.sub).trans o3.sub) ?_
    have e : ((mnL (lens ws) : Int) == (mxL (lens ws) : Int)) = (mnL (lens ws) == mxL (lens ws)) := by
      rw [Bool.eq_iff_iff, beq_iff_eq, beq_iff_eq]; omega
    rw [e]
    exact h
theorem spec_IsUniform (v : Value) (ws : List (List UInt8)) (M : Mem) (R : Value → Mem → Prop) (hv : Rd M v (strs ws)) (hf : Fine ws) (hn : ws.length ≤ 1099511627776) (h : R (tup2 (.bool (uniB ws)) (morC ws)) M) : Does Try.prog 65 [.agg #[v]] M R := by
  refine does_fn tab_ok Try.func65 rfl (by kernel_rfl) (by kernel_rfl) Try.ntmps65 Try.results65 rfl ?_
  obtain ⟨a, c, rfl, ha⟩ := hv.opened
  rw [strs_length] at ha hv ⊢
  simp (disch := omega)
  intro b1 hb1
  have hs1 : Sub M (M.put b1 (.cells true [.slice a ws.length c] 1)) := (Sub.refl M).put hb1 _
  have hv1 := hv.put hb1 (.cells true [.slice a ws.length c] 1)
  have k1 : (M.put b1 (.cells true [.slice a ws.length c] 1)) b1 = some (.cells true [.slice a ws.length c] 1) := put_same _ _ _
  simp (disch := omega)
  generalize M.put b1 (.cells true [.slice a ws.length c] 1) = N at *
  refine l06Is_does _ ws _ _ hv1 hf hn ?_
  unfold uniB morC at h
  cases hm : isMor ws
  · rw [hm] at h
    simp (disch := omega)
    exact ret_sub hs1 h
  · have h15 := mor_len hm
    have hll := lens_length ws
    rw [hm, Bool.true_and, if_pos rfl, ← sameL_iff (by omega)] at h
    rcases ha with h0 | ⟨b, o, rfl, ha⟩
    · omega
    have hget : ∀ i, (hi : i < ws.length) → N.get? b (o + i) = some (str ws[i]) := by
      intro i hi
      have hg0 := ha i hi
      rw [strs_get, List.getElem?_eq_getElem hi] at hg0
      exact get_keep hg0 hs1
    have hg1 := hget 0 (by omega)
    rw [Nat.add_zero] at hg1
    have hd0 : fstL (lens ws) = (ws[0]'(by omega)).length := by cases ws with
      | nil => simp at h15
      | cons w ws => rfl
    simp (disch := omega)
    refine loop_to tab_ok [2, 3, 4, 8, 9, 10, 11, 12, 13, 14, 15, 16, 17, 18, 19, 20, 21, 22, 23, 24, 25, 26] (fun i : Nat => [(4, .int .i64 i)]) (fun i M' => M' = N ∧ 1 ≤ i ∧ i ≤ ws.length ∧ ∀ x ∈ (lens ws).take i, x = fstL (lens ws)) (fun i => ws.length - i) 1 (by kernel_rfl) (by simp (disch := omega)) ⟨rfl, by omega, by omega, ?_⟩ ?_
    · intro x hx
      rw [take_one (by omega)] at hx
      rw [List.mem_singleton.1 hx, hd0]
      simp [lens]
    rintro i M' g ⟨rfl, hi1, hi, hall⟩
    by_cases hlt : i < ws.length
    · have hg := hget i hlt
      have hli : (lens ws)[i]'(by omega) = ws[i].length := by simp [lens]
      have hn1 : (ws[i].length : Int) = ws[i].length := rfl
      simp (disch := omega) [sub_of k1, get_of k1]
      refine draw_to tab_ok (by kernel_rfl) (by kernel_rfl) (by rfl) ?_
      simp (disch := omega) [sub_of k1, get_of k1, hg, hg1]
      by_cases he : ws[i].length = (ws[0]'(by omega)).length
      · simp (disch := omega) [he]
        refine Rnd.mk' (i + 1) (by omega) (by (repeat (first | exact km | refine kp rfl ?_ | refine km' rfl ?_))) (by simp (disch := omega)) ⟨rfl, by omega, by omega, ?_⟩
        intro x hx
        rw [take_snoc _ (by omega)] at hx
        rcases List.mem_append.1 hx with hx | hx
        · exact hall x hx
        · rw [List.mem_singleton.1 hx, hd0, hli, he]
      · have he' : ¬ ((ws[i].length : Int) = ((ws[0]'(by omega)).length : Int)) := by omega
        have hs : sameL (lens ws) = false := by
          cases hs : sameL (lens ws) with
          | false => rfl
          | true =>
            unfold sameL at hs
            have := List.all_eq_true.1 hs _ (List.getElem_mem (show i < (lens ws).length by omega))
            rw [beq_iff_eq, hli, hd0] at this
            exact absurd this he
        rw [hs] at h
        simp (disch := omega) [he']
        exact ret_sub hs1 h
    · have hi' : i = ws.length := by omega
      have hs : sameL (lens ws) = true := by
        unfold sameL
        rw [List.all_eq_true]
        intro x hx
        rw [beq_iff_eq]
        refine hall x ?_
        rw [List.take_of_length_le (by omega)]
        exact hx
      rw [hs] at h
      simp (disch := omega) [sub_of k1, get_of k1]
      exact ret_sub hs1 h
/-- The test length out of the least and the greatest length. -/
theorem test_int {a b : Nat} (ha : 1 ≤ a) (ha' : a ≤ 12) (hb : b ≤ 12) : ((((b - 3 : Nat) : Int) + a - 1).tdiv a) = (((b - 3 + a - 1) / a : Nat) : Int) := by
  have e : ((b - 3 : Nat) : Int) + a - 1 = ((b - 3 + a - 1 : Nat) : Int) := by omega
  rw [e, Int.tdiv_eq_ediv_of_nonneg (by omega)]
  push_cast; rfl
theorem test_le {a b : Nat} (hb : b ≤ 12) (ha : a ≤ 12) : (b - 3 + a - 1) / a ≤ 21 := Nat.le_trans (Nat.div_le_self _ _) (by omega)
theorem max_r (r : Nat) : (if (3 : Int) < (r : Int) + 1 then (r : Int) + 1 else 3) = (max 3 (r + 1) : Nat) := by split <;> omega
theorem max3 (b : Nat) : (if (b : Int) - 3 < 0 then (0 : Int) else (b : Int) - 3) = ((b - 3 : Nat) : Int) := by split <;> omega
theorem testLength_does (v : Value) (ws : List (List UInt8)) (M : Mem) (R : Value → Mem → Prop) (hv : Rd M v (strs ws)) (hf : Fine ws) (hn : ws.length ≤ 1099511627776) (h : R (tup2 (.int .i64 (testT ws)) (testC ws)) M) : Does Try.prog 99 [.agg #[v]] M R := by
  refine does_fn tab_ok Try.func99 rfl (by kernel_rfl) (by kernel_rfl) Try.ntmps99 Try.results99 rfl ?_
  obtain ⟨a, c, rfl, ha⟩ := hv.opened
  rw [strs_length] at hv ⊢
  simp (disch := omega)
  intro b1 hb1
  have hs1 : Sub M (M.put b1 (.cells true [.slice a ws.length c] 1)) := (Sub.refl M).put hb1 _
  have hv1 := hv.put hb1 (.cells true [.slice a ws.length c] 1)
  have k1 : (M.put b1 (.cells true [.slice a ws.length c] 1)) b1 = some (.cells true [.slice a ws.length c] 1) := put_same _ _ _
  simp (disch := omega)
  generalize M.put b1 (.cells true [.slice a ws.length c] 1) = N at *
  refine morphismCode0_does _ ws _ _ hv1 hf hn ?_
  unfold testT testC at h
  unfold morC
  cases hm : isMor ws
  · rw [hm] at h
    simp (disch := omega)
    exact ret_sub hs1 h
  · rw [hm, if_pos rfl, if_pos rfl] at h
    have h15 := mor_len hm
    have hll := lens_length ws
    obtain ⟨q1, q2, q3⟩ := lens_le hm
    unfold testN at h
    simp (disch := omega)
    refine draws_at [0, 3, 1, 2, 4, 5, 6, 7] 2 2 tab_ok (by kernel_rfl) (by kernel_rfl) (by rfl) ?_
    simp (disch := omega) [sub_of k1]
    refine lengths_does _ ws _ _ hv1 hf (by omega) ?_
    intro v2 N2 o2
    simp (disch := omega)
    refine ⟨o2.sub, ?_⟩
    refine Min_does _ _ _ _ o2.rd (by omega) (by omega) ?_
    simp (disch := omega)
    refine ⟨o2.sub, ?_⟩
    refine lengths_does _ ws _ _ (hv1.sub o2.sub) hf (by omega) ?_
    intro v3 N3 o3
    simp (disch := omega)
    refine Max_does _ _ _ _ o3.rd (by omega) (by omega) ?_
    have hsz := (hs1.trans o2.sub).trans o3.sub
    generalize mnL (lens ws) = p at *
    generalize mxL (lens ws) = q at *
    by_cases h0 : p = 0
    · subst h0
      simp (disch := omega)
      exact ret_sub hsz h
    · have h0' : ¬ (p : Int) = 0 := by omega
      rw [if_neg h0] at h
      have t1 := test_int (a := p) (b := q) (by omega) q1 q2
      have t2 := test_le (a := p) (b := q) q2 q1
      have t3 := max3 q
      generalize (q - 3 + p - 1) / p = r at *
      simp (disch := omega) [h0', t3, t1, max_r]
      rw [if_neg (show ¬ max 3 (r + 1) = 0 by omega)] at h
      exact ret_sub hsz h
theorem impl_TestLength (v : Value) (ws : List (List UInt8)) (M : Mem) (R : Value → Mem → Prop) (hv : Rd M v (strs ws)) (hf : Fine ws) (hn : ws.length ≤ 1099511627776) (h : R (tup2 (.int .i64 (testT ws)) (testC ws)) M) : Does Try.prog 32 [.agg #[v]] M R := by
  refine does_fn tab_ok Try.func32 rfl (by kernel_rfl) (by kernel_rfl) Try.ntmps32 Try.results32 rfl ?_
  obtain ⟨a, c, rfl, ha⟩ := hv.opened
  rw [strs_length] at hv ⊢
  simp (disch := omega)
  intro b1 hb1
  simp (disch := omega)
  refine testLength_does _ ws _ _ (hv.put hb1 _) hf hn ?_
  simp (disch := omega) [tup2]
  exact ret_sub ((Sub.refl M).put hb1 _) h
theorem l06Test_does (v : Value) (ws : List (List UInt8)) (M : Mem) (R : Value → Mem → Prop) (hv : Rd M v (strs ws)) (hm : isMor ws = true) (h : R (.int .i64 (testN ws)) M) : Does Try.prog 106 [.agg #[v]] M R := by
  refine does_fn tab_ok Try.func106 rfl (by kernel_rfl) (by kernel_rfl) Try.ntmps106 Try.results106 rfl ?_
  obtain ⟨a, c, rfl, ha⟩ := hv.opened
  have h15 := mor_len hm
  have hll := lens_length ws
  obtain ⟨q1, q2, q3⟩ := lens_le hm
  rw [strs_length] at ha hv ⊢
  simp (disch := omega)
  intro b1 hb1
  have hs1 : Sub M (M.put b1 (.cells true [.slice a ws.length c] 1)) := (Sub.refl M).put hb1 _
  have k1 : (M.put b1 (.cells true [.slice a ws.length c] 1)) b1 = some (.cells true [.slice a ws.length c] 1) := put_same _ _ _
  rcases ha with h0 | ⟨b, o, rfl, ha⟩
  · omega
  simp (disch := omega)
  generalize M.put b1 (.cells true [.slice (some ⟨b, o, none⟩) ws.length c] 1) = N at *
  have hget : ∀ i, (hi : i < ws.length) → N.get? b (o + i) = some (str ws[i]) := by
    intro i hi
    have hg0 := ha i hi
    rw [strs_get, List.getElem?_eq_getElem hi] at hg0
    exact get_keep hg0 hs1
  have hg1 := hget 0 (by omega)
  rw [Nat.add_zero] at hg1
  have hl0 : (lens ws)[0]'(by omega) = (ws[0]'(by omega)).length := by simp [lens]
  refine draw_to tab_ok (by kernel_rfl) (by kernel_rfl) (by rfl) ?_
  simp (disch := omega) [sub_of k1, get_of k1, hg1]
  refine loop_to tab_ok [3, 4, 5, 16, 17, 18, 19, 20, 21, 22, 23, 24, 25, 26, 27, 28, 29, 30, 31, 32, 33, 34, 35, 36, 37, 38] (fun i : Nat => [(5, .int .i64 i), (3, .int .i64 (mnL ((lens ws).take i))), (4, .int .i64 (mxL ((lens ws).take i)))]) (fun i M' => M' = N ∧ 1 ≤ i ∧ i ≤ ws.length) (fun i => ws.length - i) 1 (by kernel_rfl) (by rw [take_one (by omega), mnL_one, mxL_one, hl0]; simp (disch := omega)) ⟨rfl, by omega, by omega⟩ ?_
  rintro i M' g ⟨rfl, hi1, hi⟩
  by_cases hlt : i < ws.length
  · have hg := hget i hlt
    have hli : (lens ws)[i]'(by omega) = ws[i].length := by simp [lens]
    simp (disch := omega) [sub_of k1, get_of k1, hg, mn_int, mx_int]
    refine Rnd.mk' (i + 1) (by omega) (by (repeat (first | exact km | refine kp rfl ?_ | refine km' rfl ?_))) ?_ ⟨rfl, by omega, by omega⟩
    rw [take_snoc (lens ws) (by omega), hli, mnL_snoc (by rw [List.length_take]; omega), mxL_snoc (by rw [List.length_take]; omega)]
    simp (disch := omega) [mn_int, mx_int]
  · have hi' : i = ws.length := by omega
    rw [List.take_of_length_le (by omega)]
    unfold testN at h
    generalize mnL (lens ws) = p at *
    generalize mxL (lens ws) = q at *
    by_cases h0 : p = 0
    · subst h0
      simp (disch := omega) [sub_of k1, get_of k1]
      exact ret_sub hs1 h
    · have h0' : ¬ (p : Int) = 0 := by omega
      rw [if_neg h0] at h
      have t1 := test_int (a := p) (b := q) (by omega) q1 q2
      have t2 := test_le (a := p) (b := q) q2 q1
      have t3 := max3 q
      generalize (q - 3 + p - 1) / p = r at *
      simp (disch := omega) [sub_of k1, get_of k1, h0', t3, t1, max_r]
      exact ret_sub hs1 h
theorem spec_TestLength (v : Value) (ws : List (List UInt8)) (M : Mem) (R : Value → Mem → Prop) (hv : Rd M v (strs ws)) (hf : Fine ws) (hn : ws.length ≤ 1099511627776) (h : R (tup2 (.int .i64 (testT ws)) (testC ws)) M) : Does Try.prog 33 [.agg #[v]] M R := by
  refine does_fn tab_ok Try.func33 rfl (by kernel_rfl) (by kernel_rfl) Try.ntmps33 Try.results33 rfl ?_
  obtain ⟨a, c, rfl, ha⟩ := hv.opened
  rw [strs_length] at hv ⊢
  simp (disch := omega)
  intro b1 hb1
  have hs1 : Sub M (M.put b1 (.cells true [.slice a ws.length c] 1)) := (Sub.refl M).put hb1 _
  have hv1 := hv.put hb1 (.cells true [.slice a ws.length c] 1)
  simp (disch := omega)
  refine l06Is_does _ ws _ _ hv1 hf hn ?_
  unfold testT testC at h
  cases hm : isMor ws
  · rw [hm] at h
    simp (disch := omega)
    exact ret_sub hs1 h
  · rw [hm, if_pos rfl, if_pos rfl] at h
    simp (disch := omega)
    refine l06Test_does _ ws _ _ hv1 hm ?_
    generalize testN ws = r at *
    by_cases h0 : r = 0
    · subst h0
      simp (disch := omega)
      exact ret_sub hs1 h
    · have h0' : ¬ (r : Int) = 0 := by omega
      rw [if_neg h0] at h
      simp (disch := omega) [h0']
      exact ret_sub hs1 h
end Go.Proofs.Ytbefijbmgmbphaa

/- Merged: M9 C52 C53 C54 C37. -/
import Derived.Test.YthpcojnpiggaiaaGreatCH
import Derived.Test.YthpcojnpiggaiaaGreatCL
import Derived.Test.YthpcojnpiggaiaaGreatCB
/-! The plain law of sums: sorted numbers without repeats are the numbers that are met, in order. -/
namespace Go.Proofs.YthpcojnpiggaiaaGreat
open Go
set_option linter.unusedSimpArgs false
set_option linter.unusedVariables false

def numW (u : List UInt8) : Nat := (u.map fun c => c.toNat - 97).sum
theorem numW_snoc (u : List UInt8) (c : UInt8) : numW (u ++ [c]) = numW u + (c.toNat - 97) := by simp [numW]
theorem numW_le {u : List UInt8} (h : u.all isL = true) : numW u ≤ 4 * u.length := by
  induction u with
  | nil => simp [numW]
  | cons c l ih =>
    rw [List.all_cons, Bool.and_eq_true] at h
    have h1 := isL_range h.1
    have h2 := ih h.2
    have : numW (c :: l) = (c.toNat - 97) + numW l := by simp [numW]
    rw [this, List.length_cons]
    omega
/-- Two lists in strict order with the same elements. -/
theorem strict_same : ∀ {a b : List Int}, a.Pairwise (· < ·) → b.Pairwise (· < ·) → (∀ x, x ∈ a ↔ x ∈ b) → a = b
  | [], [], _, _, _ => rfl
  | [], y :: b, _, _, h => absurd ((h y).2 List.mem_cons_self) (by simp)
  | x :: a, [], _, _, h => absurd ((h x).1 List.mem_cons_self) (by simp)
  | x :: a, y :: b, ha, hb, h => by
    rw [List.pairwise_cons] at ha hb
    have hxy : x = y := by
      have h1 := (h x).1 List.mem_cons_self
      have h2 := (h y).2 List.mem_cons_self
      rcases List.mem_cons.1 h1 with e | e
      · exact e
      · rcases List.mem_cons.1 h2 with e2 | e2
        · exact e2.symm
        · have := hb.1 x e
          have := ha.1 y e2
          omega
    subst hxy
    congr 1
    refine strict_same ha.2 hb.2 fun z => ?_
    constructor
    · intro hz
      rcases List.mem_cons.1 ((h z).1 (List.mem_cons_of_mem _ hz)) with e | e
      · have := ha.1 z hz; omega
      · exact e
    · intro hz
      rcases List.mem_cons.1 ((h z).2 (List.mem_cons_of_mem _ hz)) with e | e
      · have := hb.1 z hz; omega
      · exact e
/-- What is kept of a sorted list is in strict order. -/
theorem upTo_strict {zs : List Int} (hs : zs.Pairwise (· ≤ ·)) : ∀ m, m ≤ zs.length → (Lib.compactUpTo zs.toArray m).Pairwise (· < ·)
  | 0, _ => by simp [Lib.compactUpTo]
  | m + 1, hm => by
    rw [Lib.compactUpTo_succ, List.pairwise_append]
    refine ⟨upTo_strict hs m (by omega), by split <;> simp, ?_⟩
    intro x hx y hy
    cases hk : Lib.keeps zs.toArray m with
    | false => rw [hk] at hy; simp at hy
    | true =>
      rw [hk, if_pos rfl, List.mem_singleton] at hy
      subst hy
      obtain ⟨j, hj, rfl⟩ := (mem_upTo _ _ _).1 hx
      have hg : ∀ i, (hi : i < zs.length) → zs.toArray[i]! = zs[i] := fun i hi => by rw [getElem!_pos _ i (by simpa using hi)]; simp
      rw [hg j (by omega), hg m (by omega)]
      have hle : ∀ i k, (hk : k < zs.length) → (hi : i ≤ k) → zs[i]'(by omega) ≤ zs[k] := fun i k hk hi => by
        rcases Nat.lt_or_eq_of_le hi with h | h
        · exact List.pairwise_iff_getElem.1 hs i k (by omega) hk h
        · subst h; exact Int.le_refl _
      have h1 := hle j (m - 1) (by omega) (by omega)
      have h2 := hle (m - 1) m (by omega) (by omega)
      simp only [Lib.keeps, decide_eq_true_eq] at hk
      rcases hk with h0 | hne
      · omega
      · rw [hg m (by omega), hg (m - 1) (by omega)] at hne
        omega
def srtI (zs : List Int) : List Int := Lib.compact (zs.mergeSort fun x y => decide (x ≤ y))
theorem mem_srtI (zs : List Int) (x : Int) : x ∈ srtI zs ↔ x ∈ zs := by
  unfold srtI
  rw [mem_compact]
  exact List.mem_mergeSort
theorem srtI_strict (zs : List Int) : (srtI zs).Pairwise (· < ·) := by
  unfold srtI Lib.compact
  refine upTo_strict ?_ _ (Nat.le_refl _)
  have := List.pairwise_mergeSort (le := fun x y : Int => decide (x ≤ y)) (fun a b c h1 h2 => decide_eq_true (Int.le_trans (of_decide_eq_true h1) (of_decide_eq_true h2))) (fun a b => by
    rcases Int.le_total a b with h | h
    · rw [decide_eq_true h]; rfl
    · rw [decide_eq_true h, Bool.or_true]) zs
  exact this.imp fun h => of_decide_eq_true h
/-- The numbers below a bound that are met, in order. -/
def metL (L : List (List UInt8)) (n : Nat) : List Int := ((List.range n).filter fun s => L.any fun u => numW u == s).map fun s : Nat => (s : Int)
theorem metL_succ (L : List (List UInt8)) (n : Nat) : metL L (n + 1) = metL L n ++ if (L.any fun u => numW u == n) then [(n : Int)] else [] := by
  unfold metL
  rw [List.range_succ, List.filter_append, List.map_append]
  congr 1
  by_cases h : (L.any fun u => numW u == n) = true <;> simp [h]
theorem metL_strict (L : List (List UInt8)) : ∀ n, (metL L n).Pairwise (· < ·)
  | 0 => by simp [metL]
  | n + 1 => by
    rw [metL_succ, List.pairwise_append]
    refine ⟨metL_strict L n, by split <;> simp, ?_⟩
    intro x hx y hy
    split at hy
    · rw [List.mem_singleton] at hy
      obtain ⟨s, hs, rfl⟩ := List.mem_map.1 hx
      have := List.mem_range.1 (List.mem_filter.1 hs).1
      omega
    · simp at hy
theorem met_same {L L' : List (List UInt8)} {n : Nat} (hb : ∀ u ∈ L, numW u < n) (hL : ∀ u, u ∈ L' ↔ u ∈ L) : srtI (L'.map fun u => (numW u : Int)) = metL L n := by
  refine strict_same (srtI_strict _) (metL_strict L n) fun x => ?_
  rw [mem_srtI]
  unfold metL
  constructor
  · intro h
    obtain ⟨u, hu, rfl⟩ := List.mem_map.1 h
    have hu' := (hL u).1 hu
    exact List.mem_map.2 ⟨numW u, List.mem_filter.2 ⟨List.mem_range.2 (hb u hu'), List.any_eq_true.2 ⟨u, hu', by simp⟩⟩, rfl⟩
  · intro h
    obtain ⟨s, hs, rfl⟩ := List.mem_map.1 h
    obtain ⟨u, hu, he⟩ := List.any_eq_true.1 (List.mem_filter.1 hs).2
    exact List.mem_map.2 ⟨u, (hL u).2 hu, by rw [beq_iff_eq] at he; rw [he]⟩
/-- The marks of the numbers that are met. -/
def metB (L : List (List UInt8)) : List Value := (List.range 300).map fun s => Value.bool (L.any fun u => numW u == s)
theorem metB_length (L : List (List UInt8)) : (metB L).length = 300 := by unfold metB; rw [List.length_map, List.length_range]
theorem metB_get (L : List (List UInt8)) {s : Nat} (h : s < 300) : (metB L)[s]? = some (.bool (L.any fun u => numW u == s)) := by
  unfold metB
  rw [List.getElem?_map, List.getElem?_range h]; rfl
theorem metB_nil : List.replicate 300 (Value.bool false) = metB [] := by
  apply List.ext_getElem?
  intro i
  by_cases h : i < 300
  · rw [metB_get _ h, List.getElem?_replicate_of_lt h]; rfl
  · rw [List.getElem?_eq_none (by rw [List.length_replicate]; omega), List.getElem?_eq_none (by rw [metB_length]; omega)]
theorem metB_set (L : List (List UInt8)) (u : List UInt8) (h : numW u < 300) : (metB L).set (numW u) (.bool true) = metB (L ++ [u]) := by
  apply List.ext_getElem?
  intro i
  by_cases hi : i < 300
  · rw [metB_get _ hi]
    by_cases e : numW u = i
    · subst e
      rw [List.getElem?_set_self (by rw [metB_length]; exact h)]
      simp
    · rw [List.getElem?_set_ne e, metB_get _ hi, List.any_append]
      simp [e]
  · rw [List.getElem?_eq_none (by rw [List.length_set, metB_length]; omega), List.getElem?_eq_none (by rw [metB_length]; omega)]
theorem metL_len (L : List (List UInt8)) (n : Nat) : (metL L n).length ≤ n := by
  unfold metL
  rw [List.length_map]
  have := List.length_filter_le (fun s => L.any fun u => numW u == s) (List.range n)
  rw [List.length_range] at this
  exact this
def sumsC (w : List UInt8) (m : Int) : Int := if isWord w then (if 0 ≤ m ∧ m ≤ 60 then 0 else 2) else 1
def sumsR (w : List UInt8) (m : Int) : List Int := if isWord w then (if 0 ≤ m ∧ m ≤ 60 then metL (segsA w m.toNat (w.length + 1 - m.toNat)) 300 else []) else []
theorem sumsR_len (w : List UInt8) (m : Int) : (sumsR w m).length ≤ 300 := by
  unfold sumsR
  split
  · split
    · exact metL_len _ _
    · simp
  · simp
end Go.Proofs.YthpcojnpiggaiaaGreat
/-! Contracts: slices.Compact of numbers, walked. -/
namespace Go.Proofs.YthpcojnpiggaiaaGreat
open Go
set_option linter.unusedSimpArgs false
set_option linter.unusedVariables false

/-- What is kept of the first m numbers. -/
def cuI (zs : List Int) (m : Nat) : List Int := Lib.compactUpTo zs.toArray m
theorem cuI_zero (zs : List Int) : cuI zs 0 = [] := rfl
theorem arr_get {zs : List Int} {i : Nat} (h : i < zs.length) : zs.toArray[i]! = zs[i] := by
  rw [getElem!_pos _ i (by simpa using h)]; simp
theorem cuI_one {zs : List Int} (h : 0 < zs.length) : cuI zs 1 = zs.take 1 := by
  unfold cuI
  rw [Lib.compactUpTo_succ, arr_get h]
  have e : Lib.keeps zs.toArray 0 = true := by simp [Lib.keeps]
  rw [e, if_pos rfl, take_snoc zs h]; rfl
theorem cuI_yes {zs : List Int} {m : Nat} (h0 : 0 < m) (h : m < zs.length) (hne : zs[m] ≠ zs[m - 1]'(by omega)) : cuI zs (m + 1) = cuI zs m ++ [zs[m]] := by
  unfold cuI
  rw [Lib.compactUpTo_succ]
  have e : Lib.keeps zs.toArray m = true := by
    simp only [Lib.keeps, decide_eq_true_eq]
    right
    rw [arr_get h, arr_get (show m - 1 < zs.length by omega)]
    exact hne
  rw [e, if_pos rfl, arr_get h]
theorem cuI_no {zs : List Int} {m : Nat} (h0 : 0 < m) (h : m < zs.length) (he : zs[m] = zs[m - 1]'(by omega)) : cuI zs (m + 1) = cuI zs m := by
  unfold cuI
  rw [Lib.compactUpTo_succ]
  have e : Lib.keeps zs.toArray m = false := by
    simp only [Lib.keeps, decide_eq_false_iff_not]
    rintro (h1 | h1)
    · omega
    · rw [arr_get h, arr_get (show m - 1 < zs.length by omega)] at h1
      exact h1 he
  rw [e]; simp
theorem cuI_le (zs : List Int) : ∀ m, (cuI zs m).length ≤ m
  | 0 => Nat.le_refl 0
  | m + 1 => by
    have := cuI_le zs m
    unfold cuI at *
    rw [Lib.compactUpTo_succ, List.length_append]
    split <;> simp <;> omega
theorem cuI_all (zs : List Int) : cuI zs zs.length = Lib.compact zs := rfl
/-- The cells on the way: what is kept, then what stood there. -/
def mixI (zs : List Int) (m : Nat) : List Int := cuI zs m ++ zs.drop (cuI zs m).length
theorem mixI_len {zs : List Int} {m : Nat} (h : m ≤ zs.length) : (mixI zs m).length = zs.length := by
  have := cuI_le zs m
  unfold mixI
  rw [List.length_append, List.length_drop]; omega
theorem mixI_get {zs : List Int} {m i : Nat} (h : (cuI zs m).length ≤ i) : (mixI zs m)[i]? = zs[i]? := by
  unfold mixI
  rw [List.getElem?_append_right h, List.getElem?_drop]
  congr 1; omega
theorem mixI_no {zs : List Int} {m : Nat} (h : cuI zs (m + 1) = cuI zs m) : mixI zs (m + 1) = mixI zs m := by unfold mixI; rw [h]
theorem mixI_set {zs : List Int} {m : Nat} {z : Int} (h : cuI zs (m + 1) = cuI zs m ++ [z]) (hm : m < zs.length) : (mixI zs m).set (cuI zs m).length z = mixI zs (m + 1) := by
  have hle := cuI_le zs m
  unfold mixI
  rw [h, List.set_append_right _ _ (Nat.le_refl _), Nat.sub_self, List.drop_eq_getElem_cons (show (cuI zs m).length < zs.length by omega), List.set_cons_zero, List.length_append, List.length_singleton, List.append_assoc]
  rfl
theorem mixI_take {zs : List Int} {k : Nat} (h : cuI zs k = zs.take k) (hk : k ≤ zs.length) : mixI zs k = zs := by
  unfold mixI
  rw [h, List.length_take, Nat.min_eq_left hk, List.take_append_drop]
theorem compactI_does (v : Value) (zs : List Int) (M0 M : Mem) (R : Value → Mem → Prop) (ho : Own M0 v (ints zs) M) (hl : zs.length ≤ 1000000)
    (h : ∀ v' M', Own M0 v' (ints (Lib.compact zs)) M' → R v' M') : Does Tryz.prog 103 [v] M R := by
  rcases ho with ⟨rfl, he, rfl⟩ | ⟨b, c, rfl, hb, hc, rfl⟩
  · have hss : zs = [] := by
      have := congrArg List.length he
      rw [ints_length] at this
      exact List.eq_nil_of_length_eq_zero this
    subst hss
    refine does_fn tab_ok Tryz.func103 rfl (by kernel_rfl) (by kernel_rfl) Tryz.ntmps103 Tryz.results103 rfl ?_
    simp (disch := omega)
    exact ret_of (h _ _ (Own.nil _))
  · rw [ints_length] at hc ⊢
    refine Does.less (R' := fun v' M' => (v' = .slice (some ⟨b, 0, none⟩) zs.length c ∧ Lib.compact zs = zs ∧ M' = M0.put b (.cells true (ints zs) c)) ∨
      ∃ L, v' = .slice (some ⟨b, 0, none⟩) (Lib.compact zs).length c ∧ M' = M0.put b (.cells true (ints (Lib.compact zs ++ L)) c)) ?_ ?_
    · refine does_fn tab_ok Tryz.func103 rfl (by kernel_rfl) (by kernel_rfl) Tryz.ntmps103 Tryz.results103 rfl ?_
      by_cases h2 : zs.length < 2
      · simp (disch := omega)
        refine ret_of (.inl ⟨rfl, ?_, rfl⟩)
        rw [← cuI_all]
        by_cases h0 : zs.length = 0
        · rw [List.eq_nil_of_length_eq_zero h0]; rfl
        · have h1 : zs.length = 1 := by omega
          rw [h1, cuI_one (by omega), List.take_of_length_le (by omega)]
      · simp (disch := omega)
        refine loop_to tab_ok [2, 3, 4, 5, 10, 11, 12, 13, 14, 15, 16, 17, 18, 19, 20, 21, 22, 23, 24, 25, 26, 27, 28, 29, 30, 31, 32, 33, 34, 35, 36, 37, 38, 39, 40, 41, 42, 43, 44, 45, 46, 47, 48, 49, 50, 51, 52, 53, 54, 55, 56, 57, 58, 59] (fun k : Nat => [(3, .int .i64 k)]) (fun k M' => M0.put b (.cells true (ints zs) c) = M' ∧ 1 ≤ k ∧ k ≤ zs.length ∧ cuI zs k = zs.take k) (fun k => zs.length - k) 1 (by kernel_rfl) (by simp (disch := omega)) ⟨rfl, by omega, by omega, cuI_one (by omega)⟩ ?_
        rintro k M' g ⟨rfl, h1, hk, htk⟩
        by_cases hlt : k < zs.length
        · have kM : (M0.put b (.cells true (ints zs) c)) b = some (.cells true (ints zs) c) := put_same _ _ _
          obtain ⟨q, hq⟩ : ∃ q, q = k - 1 := ⟨_, rfl⟩
          have hq' : (k : Int) - 1 = q := by omega
          have hg1 : (M0.put b (.cells true (ints zs) c)).get? b k = some (.int .i64 zs[k]) := by rw [get_of kM, ints_get, List.getElem?_eq_getElem hlt]; rfl
          have hg0 : (M0.put b (.cells true (ints zs) c)).get? b q = some (.int .i64 (zs[q]'(by omega))) := by rw [get_of kM, ints_get, List.getElem?_eq_getElem (by omega)]; rfl
          simp (disch := omega)
          refine draw_to tab_ok (by kernel_rfl) (by kernel_rfl) (by rfl) ?_
          by_cases he : zs[k] = zs[q]'(by omega)
          · have hc1 : cuI zs (k + 1) = cuI zs k := cuI_no (by omega) hlt (by subst hq; exact he)
            rw [he] at hg1
            generalize zs[q]'(by omega) = z at *
            simp (disch := omega) [hg1, hq', hg0]
            have hmx : mixI zs (k + 1) = zs := by rw [mixI_no hc1, mixI_take htk hk]
            have hcl : (cuI zs (k + 1)).length = k := by rw [hc1, htk, List.length_take]; omega
            refine loop_to tab_ok [3, 5, 29, 30, 31, 32, 33, 34, 35, 36, 37, 38, 39, 40, 41, 42, 43, 44, 45, 46, 47, 48, 49, 50, 51, 52, 53] (fun j : Nat => [(5, .int .i64 j), (3, .int .i64 ((cuI zs (k + j)).length : Nat))]) (fun j M' => M0.put b (.cells true (ints (mixI zs (k + j))) c) = M' ∧ 1 ≤ j ∧ k + j ≤ zs.length ∧ (cuI zs (k + j)).length < k + j) (fun j => zs.length - k - j) 1 (by kernel_rfl) (by simp (disch := omega) [hcl]) ⟨by rw [hmx], by omega, by omega, by omega⟩ ?_
            clear hg1 hg0 he kM hq hq'
            rintro j M' g2 ⟨rfl, hj1, hj, hLt⟩
            have hmL := mixI_len hj
            have kM : (M0.put b (.cells true (ints (mixI zs (k + j))) c)) b = some (.cells true (ints (mixI zs (k + j))) c) := put_same _ _ _
            by_cases hlt2 : k + j < zs.length
            · obtain ⟨p, hp⟩ : ∃ p, p = j - 1 := ⟨_, rfl⟩
              have hp' : (j : Int) - 1 = p := by omega
              have hg1 : (M0.put b (.cells true (ints (mixI zs (k + j))) c)).get? b (k + j) = some (.int .i64 zs[k + j]) := by rw [get_of kM, ints_get, mixI_get (by omega), List.getElem?_eq_getElem hlt2]; rfl
              have hg0 : (M0.put b (.cells true (ints (mixI zs (k + j))) c)).get? b (k + p) = some (.int .i64 (zs[k + p]'(by omega))) := by rw [get_of kM, ints_get, mixI_get (by omega), List.getElem?_eq_getElem (by omega)]; rfl
              have hpe : k + p = k + j - 1 := by omega
              have e1 : k + (j + 1) = k + j + 1 := by omega
              simp (disch := omega)
              refine draw_to tab_ok (by kernel_rfl) (by kernel_rfl) (by rfl) ?_
              by_cases he : zs[k + j] = zs[k + p]'(by omega)
              · have hc2 : cuI zs (k + j + 1) = cuI zs (k + j) := cuI_no (by omega) hlt2 (by simp only [hpe] at he; exact he)
                have hmx2 := mixI_no hc2
                rw [he] at hg1
                generalize zs[k + p]'(by omega) = z at *
                generalize mixI zs (k + j) = l at *
                simp (disch := omega) [hg1, hp', hg0]
                refine Rnd.mk' (j + 1) (by omega) (by (repeat (first | exact km | refine kp rfl ?_ | refine km' rfl ?_))) (by simp (disch := omega) [e1, hc2]) ⟨by rw [e1, hmx2], by omega, by omega, by rw [e1, hc2]; omega⟩
              · have hc2 : cuI zs (k + j + 1) = cuI zs (k + j) ++ [zs[k + j]] := cuI_yes (by omega) hlt2 (by simp only [hpe] at he; exact he)
                have hmx2 := mixI_set hc2 hlt2
                have hl2 : (cuI zs (k + j + 1)).length = (cuI zs (k + j)).length + 1 := by rw [hc2, List.length_append, List.length_singleton]
                generalize zs[k + j] = y at *
                generalize zs[k + p]'(by omega) = z at *
                generalize mixI zs (k + j) = l at *
                generalize (cuI zs (k + j)).length = L at *
                simp (disch := omega) [hg1, hp', hg0, he, kM, ints_set]
                refine Rnd.mk' (j + 1) (by omega) (by (repeat (first | exact km | refine kp rfl ?_ | refine km' rfl ?_))) (by simp (disch := omega) [e1, hl2]) ⟨by rw [e1, ← hmx2]; done, by omega, by omega, by rw [e1, hl2]; omega⟩
            · have hj' : k + j = zs.length := by omega
              have hml : mixI zs (k + j) = Lib.compact zs ++ zs.drop (Lib.compact zs).length := by rw [hj', ← cuI_all]; rfl
              have hcu : cuI zs (k + j) = Lib.compact zs := by rw [hj', ← cuI_all]
              rw [hcu] at hLt ⊢
              simp (disch := omega)
              have hle : (Lib.compact zs).length < zs.length := by omega
              rw [hml] at kM ⊢
              generalize hC : Lib.compact zs = C at *
              obtain ⟨d, hd⟩ : ∃ d, zs.length - C.length = d + 1 := ⟨zs.length - C.length - 1, by omega⟩
              rw [hd]
              generalize hMM : M0.put b (.cells true (ints (C ++ zs.drop C.length)) c) = M2 at *
              show vClrB (M2 b) b C.length (d + 1) (.int .i64 0) _ M2
              rw [kM]
              refine ⟨⟨by rw [ints_length, List.length_append, List.length_drop]; omega, rfl⟩, ?_⟩
              have e : (ints (C ++ zs.drop C.length)).take C.length ++ List.replicate (d + 1) (.int .i64 0) ++ (ints (C ++ zs.drop C.length)).drop (C.length + (d + 1)) = ints (C ++ List.replicate (d + 1) 0) := by
                have e0 : (ints (C ++ zs.drop C.length)).drop (C.length + (d + 1)) = [] := List.drop_of_length_le (by rw [ints_length, List.length_append, List.length_drop]; omega)
                have e1 : (ints (C ++ zs.drop C.length)).take C.length = ints C := by
                  unfold ints
                  rw [← List.map_take, List.take_left]
                rw [e0, e1, List.append_nil, ← ints_append]
                simp [ints]
              rw [e]
              simp (disch := omega)
              refine ret_of (.inr ⟨rfl, List.replicate (d + 1) 0, ?_⟩)
              rw [set_is, ← hMM, put_put]
          · have hc1 : cuI zs (k + 1) = cuI zs k ++ [zs[k]] := cuI_yes (by omega) hlt (by subst hq; exact he)
            have htk1 := take_snoc zs hlt
            generalize zs[k] = y at *
            generalize zs[q]'(by omega) = z at *
            simp (disch := omega) [hg1, hq', hg0, he]
            refine Rnd.mk' (k + 1) (by omega) (by (repeat (first | exact km | refine kp rfl ?_ | refine km' rfl ?_))) (by simp (disch := omega)) ⟨rfl, by omega, by omega, by rw [hc1, htk, htk1]⟩
        · have hk' : k = zs.length := by omega
          subst hk'
          simp (disch := omega)
          exact ret_of (.inl ⟨rfl, by rw [← cuI_all, htk, List.take_length], rfl⟩)
    · rintro v' M' (⟨rfl, hs, rfl⟩ | ⟨L, rfl, rfl⟩)
      · exact ⟨_, (Sub.refl _).less, h _ _ (.inr ⟨b, c, by rw [ints_length, hs], hb, by rw [ints_length, hs]; exact hc, by rw [hs]⟩)⟩
      · have hle := compact_le zs
        refine ⟨M0.put b (.cells true (ints (Lib.compact zs)) c), ?_, h _ _ (.inr ⟨b, c, by rw [ints_length], hb, by rw [ints_length]; omega, rfl⟩)⟩
        intro i X hX
        unfold Mem.put at hX ⊢
        split at hX
        · rename_i e; subst e; injection hX with hX; subst hX; exact ⟨_, if_pos rfl, .inr ⟨true, _, ints L, c, rfl, by rw [ints_append]⟩⟩
        · rename_i e; exact ⟨X, by rw [if_neg e]; exact hX, .inl rfl⟩
end Go.Proofs.YthpcojnpiggaiaaGreat
/-! Contracts: numbers sorted and compacted; sums of words; sums of factors. -/
namespace Go.Proofs.YthpcojnpiggaiaaGreat
open Go Go.RowKit
set_option linter.unusedSimpArgs false
set_option linter.unusedVariables false

theorem holds_rowI {M : Mem} {w : World} (hw : Rep M w) {b c : Nat} {zs : List Int} (hM : M b = some (.cells true (ints zs) c)) : Sort.Holds (Value.int .i64) w b 0 zs.toArray := by
  intro j hj
  have hj' : j < zs.length := by simpa using hj
  have hg : M.get? b (0 + j) = some (.int .i64 zs[j]) := by rw [get_of hM, Nat.zero_add, ints_get, List.getElem?_eq_getElem hj']; rfl
  refine ⟨?_, ?_⟩
  · rw [hw.cell hg, getElem!_pos _ j hj]
    rfl
  · obtain ⟨cc, e, fr, h1, h2, ⟨ys, h3⟩, h4⟩ := hw b _ hM
    have hle := hw.le hM
    rw [ints_length] at hle
    have := h4 rfl
    obtain ⟨lo, hi⟩ := fr
    simp only [World.frozen?, h1, Nat.zero_add, Bool.and_eq_false_iff, decide_eq_false_iff_not]
    simp only at this
    omega
theorem sortI_does (b c : Nat) (zs : List Int) (M : Mem) (R : Value → Mem → Prop) (hM : M b = some (.cells true (ints zs) c)) (hn : zs.length ≤ 1000000)
    (h : R (.tuple #[]) (M.put b (.cells true (ints (zs.mergeSort fun x y => decide (x ≤ y))) c))) : Does Tryz.prog 102 [.slice (some ⟨b, 0, none⟩) zs.length c] M R := by
  refine does_row (.tuple #[]) ⟨_, Tryz.func102, by kernel_rfl, by kernel_rfl⟩ (Value.int .i64) hM (zs.mergeSort fun x y => decide (x ≤ y)).toArray (by simp [ints_length]) (fun w hw => ?_) ?_
  · exact Tryz.slices_Sort_int b 0 c zs w (holds_rowI hw hM) (told_lt hw hM) (by omega)
  · exact h
theorem sortI0_does (M : Mem) (R : Value → Mem → Prop) (h : R (.tuple #[]) M) : Does Tryz.prog 102 [.slice none 0 0] M R := by
  refine does_below (.tuple #[]) ⟨_, Tryz.func102, by kernel_rfl, by kernel_rfl⟩ (fun w hw => ?_) h
  refine (Tryz.slices_Sort_int_none none 0 w).mono fun e w' ⟨h1, h2⟩ => ⟨h1, by rw [h2]; exact Below.refl _ _⟩
theorem sortS0_does (M : Mem) (R : Value → Mem → Prop) (h : R (.tuple #[]) M) : Does Tryz.prog 120 [.slice none 0 0] M R := by
  refine does_below (.tuple #[]) ⟨_, Tryz.func120, by kernel_rfl, by kernel_rfl⟩ (fun w hw => ?_) h
  refine (Tryz.slices_Sort_string_none none 0 w).mono fun e w' ⟨h1, h2⟩ => ⟨h1, by rw [h2]; exact Below.refl _ _⟩
theorem compactS0_does (M : Mem) (R : Value → Mem → Prop) (h : R (.slice none 0 0) M) : Does Tryz.prog 121 [.slice none 0 0] M R := by
  refine does_below (.slice none 0 0) ⟨_, Tryz.func121, by kernel_rfl, by kernel_rfl⟩ (fun w hw => ?_) h
  refine (Tryz.slices_Compact_string_empty none 0 w).mono fun e w' ⟨h1, h2⟩ => ⟨h1, by rw [h2]; exact Below.refl _ _⟩
theorem sorted0_does (M : Mem) (R : Value → Mem → Prop) (h : R (.slice none 0 0) M) : Does Tryz.prog 87 [.slice none 0 0] M R := by
  refine does_fn tab_ok Tryz.func87 rfl (by kernel_rfl) (by kernel_rfl) Tryz.ntmps87 Tryz.results87 rfl ?_
  simp (disch := omega)
  refine sortS0_does _ _ ?_
  simp (disch := omega)
  refine compactS0_does _ _ ?_
  simp (disch := omega)
  exact ret_of h
theorem factors0_does (w : List UInt8) (m : Nat) (M : Mem) (R : Value → Mem → Prop) (hl : w.length ≤ 60) (hm : w.length < m) (hm2 : m ≤ 1000)
    (h : R (.slice none 0 0) M) : Does Tryz.prog 86 [str w, .int .i64 m] M R := by
  refine does_fn tab_ok Tryz.func86 rfl (by kernel_rfl) (by kernel_rfl) Tryz.ntmps86 Tryz.results86 rfl ?_
  simp (disch := omega)
  refine loop_to tab_ok [5, 6, 7, 8, 9, 10, 11, 12, 13, 14, 15, 16, 17, 18, 19, 20, 21, 22, 23] (fun x : Nat => [(6, .int .i64 0), (5, .slice none 0 0)]) (fun x M' => M = M') (fun x => 0) 0 (by kernel_rfl) (by simp (disch := omega)) rfl ?_
  rintro i M' g rfl
  simp (disch := omega)
  refine sorted0_does _ _ ?_
  simp (disch := omega)
  exact ret_of h
theorem sumOf_does (u : List UInt8) (M : Mem) (R : Value → Mem → Prop) (hl : u.length ≤ 60) (hw : u.all isL = true) (h : ∀ M', Sub M M' → R (.int .i64 (numW u : Nat)) M') : Does Tryz.prog 101 [str u] M R := by
  refine does_fn tab_ok Tryz.func101 rfl (by kernel_rfl) (by kernel_rfl) Tryz.ntmps101 Tryz.results101 rfl ?_
  simp (disch := omega)
  intro b2 c hb2 hc
  have hs : Sub M (M.put b2 (.cells true (bytesV u) c)) := (Sub.refl _).put hb2 _
  simp (disch := omega)
  refine loop_to tab_ok [3, 5, 9, 10, 11, 12, 13, 14, 15, 16, 17] (fun i : Nat => [(9, .int .i64 i), (3, .int .i64 (numW (u.take i) : Nat))]) (fun i M' => M.put b2 (.cells true (bytesV u) c) = M' ∧ i ≤ u.length) (fun i => u.length - i) 0 (by kernel_rfl) (by simp (disch := omega) [numW]) ⟨rfl, by omega⟩ ?_
  rintro i M' g ⟨rfl, hi⟩
  by_cases hlt : i < u.length
  · have hx : u[i]? = some u[i] := List.getElem?_eq_getElem hlt
    have hu := u[i].toNat_lt
    have hr := isL_range (List.all_eq_true.1 hw _ (List.getElem_mem hlt))
    have hn : numW (u.take i) ≤ 4 * (u.take i).length := numW_le (by
      rw [List.all_eq_true] at hw ⊢
      exact fun x hx => hw x (List.mem_of_mem_take hx))
    have htl : (u.take i).length ≤ u.length := by rw [List.length_take]; omega
    have hs2 : numW (u.take (i + 1)) = numW (u.take i) + (u[i].toNat - 97) := by rw [take_snoc u hlt, numW_snoc]
    simp (disch := omega) [hx]
    refine number_does _ _ _ ?_
    generalize u[i] = y at *
    simp (disch := omega)
    refine Rnd.mk' (i + 1) (by omega) (by (repeat (first | exact km | refine kp rfl ?_ | refine km' rfl ?_))) (by simp (disch := omega); omega) ⟨rfl, by omega⟩
  · have hi' : i = u.length := by omega
    subst hi'
    simp (disch := omega)
    exact ret_of (by simpa using h _ hs)
end Go.Proofs.YthpcojnpiggaiaaGreat
/-! Contracts: sums of factors, of the program. -/
namespace Go.Proofs.YthpcojnpiggaiaaGreat
open Go
set_option linter.unusedSimpArgs false
set_option linter.unusedVariables false

theorem seg_le60 {w : List UInt8} (h : w.length ≤ 60) (i m : Nat) : (seg w i m).length ≤ 60 := by
  unfold seg
  rw [List.length_drop, List.length_take]; omega
theorem segsA_of {w : List UInt8} {m i : Nat} {u : List UInt8} (h : u ∈ segsA w m i) : ∃ j, u = seg w j m := by
  unfold segsA at h
  obtain ⟨j, _, rfl⟩ := List.mem_map.1 h
  exact ⟨j, rfl⟩
theorem metL_nil : ∀ n, metL [] n = []
  | 0 => rfl
  | n + 1 => by rw [metL_succ, metL_nil n]; rfl
theorem impl_SumsOf (w : List UInt8) (m : Int) (M : Mem) (R : Value → Mem → Prop) (hl : w.length ≤ 1099511627776) (h : Lst (sumsC w m) (ints (sumsR w m)) M R) : Does Tryz.prog 46 [str w, .int .i64 m] M R := by
  refine does_fn tab_ok Tryz.func46 rfl (by kernel_rfl) (by kernel_rfl) Tryz.ntmps46 Tryz.results46 rfl ?_
  simp (disch := omega)
  intro b1 hb1
  simp (disch := omega)
  intro b2 hb2
  have h2 := hb2
  rw [put_none] at h2
  simp (disch := omega)
  have hs2 : Sub M ((M.put b1 (.cells true [.int .i64 m] 1)).put b2 (.cells true [str w] 1)) := ((Sub.refl _).put hb1 _).putN hb2 _
  have hst : Stab (fun M' : Mem => M'.get? b1 0 = some (.int .i64 m)) := by
    intro N b B hG hb
    have : b1 ≠ b := by rintro rfl; unfold Mem.get? at hG; rw [hb] at hG; cases hG
    unfold Mem.get? at *
    rw [put_ne _ _ this]
    exact hG
  refine wordCode_does _ _ [w] (decide (0 ≤ m ∧ m ≤ 60)) (fun M' : Mem => M'.get? b1 0 = some (.int .i64 m)) _ _ (Rd.new rfl (Nat.le_refl 1)) (fine1 hl) (by simp) (by simp (disch := omega) [Ne.symm h2.1, h2.1]) hst ?_ ?_
  · intro N R' hG hR'
    simp (disch := omega)
    refine does_fn tab_ok Tryz.func99 rfl (by kernel_rfl) (by kernel_rfl) Tryz.ntmps99 Tryz.results99 rfl ?_
    simp (disch := omega) [hG]
    refine isLength_does m _ _ ?_
    simp (disch := omega)
    exact ret_of (by simpa using hR')
  · rw [codeOf1]
    unfold sumsC sumsR at h
    cases hw : isWord w
    · rw [hw] at h
      simp (disch := omega)
      exact ret_sub hs2 (h _ _ (Own.nil M))
    · rw [hw] at h
      by_cases hk : 0 ≤ m ∧ m ≤ 60
      · rw [if_pos rfl, if_pos rfl, if_pos hk, if_pos hk] at h
        rw [decide_eq_true hk]
        obtain ⟨m, rfl⟩ : ∃ j : Nat, m = j := ⟨m.toNat, by omega⟩
        rw [Int.toNat_natCast] at h
        have h60 := isWord_len hw
        have hall := isWord_all hw
        simp (disch := omega) [Ne.symm h2.1, h2.1]
        generalize (M.put b1 (.cells true [.int .i64 (m : Nat)] 1)).put b2 (.cells true [str w] 1) = N at *
        by_cases hmw : m ≤ w.length
        · refine factors_does w m _ _ h60 hmw ?_
          intro v1 M1 r1 s1
          have hLle := srt_le (segsA w m (w.length - m + 1))
          rw [segsA_length] at hLle
          have hmem : ∀ u, u ∈ srt (segsA w m (w.length - m + 1)) ↔ u ∈ segsA w m (w.length - m + 1) := fun u => mem_srt _ u
          rw [show w.length + 1 - m = w.length - m + 1 by omega] at h
          have hin : ∀ u ∈ segsA w m (w.length - m + 1), u.length ≤ 60 ∧ u.all isL = true := by
            intro u hu
            obtain ⟨j, rfl⟩ := segsA_of hu
            exact ⟨seg_le60 h60 j m, seg_all hall j m⟩
          have hb300 : ∀ u ∈ segsA w m (w.length - m + 1), numW u < 300 := fun u hu => by
            have := numW_le (hin u hu).2
            have := (hin u hu).1
            omega
          have hsame := met_same hb300 hmem
          rw [← hsame] at h
          generalize segsA w m (w.length - m + 1) = A at *
          generalize srt A = L at *
          obtain ⟨a1, c1, rfl, ha1⟩ := r1.opened
          rw [strs_length] at ha1 ⊢
          simp (disch := omega)
          refine loop_to tab_ok [7, 9, 21, 22, 23, 24, 25, 26, 27, 28, 29, 30] (fun x : Nat × Value => [(21, .int .i64 x.1), (7, x.2)]) (fun x M' => x.1 ≤ L.length ∧ Own M1 x.2 (ints ((L.take x.1).map fun u => (numW u : Int))) M') (fun x => L.length - x.1) (0, .slice none 0 0) (by kernel_rfl) (by simp (disch := omega)) ⟨by omega, Own.nil _⟩ ?_
          rintro ⟨i, v⟩ M' g ⟨hi, ho⟩
          simp only at hi ho
          by_cases hlt : i < L.length
          · rcases ha1 with h0 | ⟨b, o, rfl, ha1⟩
            · omega
            have hg := ha1 i hlt
            rw [strs_get, List.getElem?_eq_getElem hlt] at hg
            have hg := get_keep hg ho.sub
            have hu := hin _ ((hmem _).1 (List.getElem_mem hlt))
            have hu3 := hb300 _ ((hmem _).1 (List.getElem_mem hlt))
            have htk := take_snoc L hlt
            have hlen : ((L.take i).map fun u => (numW u : Int)).length = i := by rw [List.length_map, List.length_take]; omega
            generalize L[i] = u at *
            simp (disch := omega) [hg]
            refine sumOf_does u _ _ hu.1 hu.2 ?_
            intro M2 s2
            simp (disch := omega)
            intro b' hb'
            simp (disch := omega)
            refine app_own ho (s2.trans ((Sub.refl _).put hb' _)) (by simp (disch := omega); rfl) rfl rfl (by omega) (by simp (disch := omega)) (by simp (disch := omega); omega) ?_
            intro v' M'' N'' ho' hs'
            simp (disch := omega)
            refine Rnd.mk'' M'' (i + 1, v') hs' (by simp only; omega) (by (repeat (first | exact km | refine kp rfl ?_ | refine km' rfl ?_))) (by simp (disch := omega)) ⟨by simp only; omega, ?_⟩
            simp only
            rw [← List.map_take, htk, List.map_append]
            have e : ints ((L.take i).map fun u => (numW u : Int)) ++ [.int .i64 (numW u : Nat)] = ints (((L.take i).map fun u => (numW u : Int)) ++ [u].map fun u => (numW u : Int)) := by
              rw [← ints_append]; rfl
            rw [← e]
            exact ho'
          · have hi' : i = L.length := by omega
            subst hi'
            rw [List.take_length] at ho
            have hzl : (L.map fun u => (numW u : Int)).length = L.length := List.length_map _
            have hsr : srtI (L.map fun u => (numW u : Int)) = Lib.compact ((L.map fun u => (numW u : Int)).mergeSort fun x y => decide (x ≤ y)) := rfl
            rw [hsr] at h
            generalize (L.map fun u => (numW u : Int)) = zs at *
            simp (disch := omega)
            have hms : (zs.mergeSort fun x y => decide (x ≤ y)).length = zs.length := List.length_mergeSort _
            rcases ho with ⟨rfl, he, rfl⟩ | ⟨b, c, rfl, hb, hc, rfl⟩
            · have hz : zs = [] := by
                have := congrArg List.length he
                rw [ints_length] at this
                exact List.eq_nil_of_length_eq_zero this
              subst hz
              rw [List.mergeSort_nil] at h
              refine sortI0_does _ _ ?_
              simp (disch := omega)
              refine compactI_does _ [] _ _ _ (Own.nil _) (by simp) ?_
              intro v' M' o'
              simp (disch := omega)
              obtain ⟨M2, o2, z2⟩ := o'.base (hs2.trans s1)
              exact ret_sub z2 (h v' M2 o2)
            · rw [ints_length] at hc
              try rw [ints_length]
              refine sortI_does b c zs _ _ (put_same _ _ _) (by omega) ?_
              have oz : Own M1 (.slice (some ⟨b, 0, none⟩) (zs.mergeSort fun x y => decide (x ≤ y)).length c) (ints (zs.mergeSort fun x y => decide (x ≤ y))) (M1.put b (.cells true (ints (zs.mergeSort fun x y => decide (x ≤ y))) c)) := .inr ⟨b, c, by rw [ints_length], hb, by rw [ints_length, hms]; exact hc, rfl⟩
              rw [put_put]
              generalize (zs.mergeSort fun x y => decide (x ≤ y)) = ys at *
              generalize M1.put b (.cells true (ints ys) c) = N3 at *
              rw [← hms]
              simp (disch := omega)
              refine compactI_does _ ys _ _ _ oz (by omega) ?_
              intro v' M' o'
              simp (disch := omega)
              obtain ⟨M2, o2, z2⟩ := o'.base (hs2.trans s1)
              exact ret_sub z2 (h v' M2 o2)
        · refine factors0_does w m _ _ h60 (by omega) (by omega) ?_
          rw [show w.length + 1 - m = 0 by omega] at h
          have hnil : metL (segsA w m 0) 300 = [] := by
            have e : segsA w m 0 = [] := rfl
            rw [e]
            exact metL_nil 300
          rw [hnil] at h
          simp (disch := omega)
          refine loop_to tab_ok [7, 9, 21, 22, 23, 24, 25, 26, 27, 28, 29, 30] (fun x : Nat => [(21, .int .i64 0), (7, .slice none 0 0)]) (fun x M' => N = M') (fun x => 0) 0 (by kernel_rfl) (by simp (disch := omega)) rfl ?_
          rintro i M' g rfl
          simp (disch := omega)
          refine sortI0_does _ _ ?_
          simp (disch := omega)
          refine compactI_does _ [] _ _ _ (Own.nil _) (by simp) ?_
          intro v' M' o'
          simp (disch := omega)
          obtain ⟨M2, o2, z2⟩ := o'.base hs2
          exact ret_sub z2 (h v' M2 o2)
      · rw [if_pos rfl, if_pos rfl, if_neg hk, if_neg hk] at h
        rw [decide_eq_false hk]
        simp (disch := omega)
        exact ret_sub hs2 (h _ _ (Own.nil M))
end Go.Proofs.YthpcojnpiggaiaaGreat
/-! Contracts: sums of factors, of the reference. -/
namespace Go.Proofs.YthpcojnpiggaiaaGreat
open Go
set_option linter.unusedSimpArgs false
set_option linter.unusedVariables false

theorem seg0 (w : List UInt8) (i : Nat) : numW (seg w i 0) = 0 := by
  unfold seg
  rw [List.drop_of_length_le (by rw [List.length_take]; omega)]; rfl
theorem segS_snoc {w : List UInt8} {i j : Nat} (h : i + j < w.length) : seg w i (j + 1) = seg w i j ++ [w[i + j]] := by
  unfold seg
  rw [show i + (j + 1) = i + j + 1 by omega, take_snoc w h, List.drop_append_of_le_length (by rw [List.length_take]; omega)]
theorem spec_SumsOf (w : List UInt8) (m : Int) (M : Mem) (R : Value → Mem → Prop) (hl : w.length ≤ 1099511627776) (h : Lst (sumsC w m) (ints (sumsR w m)) M R) : Does Tryz.prog 47 [str w, .int .i64 m] M R := by
  unfold sumsC sumsR at h
  refine does_fn tab_ok Tryz.func47 rfl (by kernel_rfl) (by kernel_rfl) Tryz.ntmps47 Tryz.results47 rfl ?_
  simp (disch := omega)
  refine l01Is_does w _ _ hl ?_
  cases hw : isWord w
  · rw [hw] at h
    simp (disch := omega)
    exact ret_of (h _ _ (Own.nil M))
  · have h60 := isWord_len hw
    have hall := isWord_all hw
    rw [hw, if_pos rfl, if_pos rfl] at h
    simp (disch := omega)
    refine l01In_does m 0 60 _ _ ?_
    by_cases h1 : 0 ≤ m ∧ m ≤ 60
    · rw [if_pos h1, if_pos h1] at h
      rw [decide_eq_true h1]
      obtain ⟨m, rfl⟩ : ∃ n : Nat, m = n := ⟨m.toNat, by omega⟩
      rw [Int.toNat_natCast] at h
      have er : (300 : Int).toNat = 300 := rfl
      simp (disch := omega) [er, metB_nil]
      intro b1 hb1
      simp (disch := omega) [er, metB_nil]
      intro b2 hb2
      rw [put_none] at hb2
      have h12 : b1 ≠ b2 := Ne.symm hb2.1
      have ml := metB_length
      simp (disch := omega) [er, metB_nil, ml]
      refine loop_to tab_ok [8, 9, 10, 22, 23, 24, 25, 26, 27, 28, 29, 30, 31, 32, 33, 34, 35, 36, 37, 38, 39, 40, 41, 42, 43, 44, 45] (fun i : Nat => [(8, .int .i64 i)]) (fun i M' => (M.put b1 (.cells true (metB (segsA w m i)) 300)).put b2 (.cells true [] 0) = M' ∧ i ≤ w.length + 1 - m) (fun i => w.length + 1 - m - i) 0 (by kernel_rfl) (by simp (disch := omega)) ⟨rfl, by omega⟩ ?_
      rintro i M' g ⟨rfl, hi⟩
      by_cases hlt : i < w.length + 1 - m
      · have hle : (i : Int) + m ≤ w.length := by omega
        simp (disch := omega)
        refine loop_to tab_ok [9, 10, 31, 32, 33, 34, 35, 36, 37, 38, 39, 40, 41, 42] (fun q : Nat => [(10, .int .i64 q), (9, .int .i64 (numW (seg w i (q - i)) : Nat))]) (fun q M' => (M.put b1 (.cells true (metB (segsA w m i)) 300)).put b2 (.cells true [] 0) = M' ∧ i ≤ q ∧ q ≤ i + m) (fun q => i + m - q) i (by kernel_rfl) (by simp (disch := omega) [seg0]) ⟨rfl, by omega, by omega⟩ ?_
        rintro q M' g1 ⟨rfl, hq1, hq⟩
        have hsl := seg_len (w := w) (a := i) (m := q - i) (by omega)
        have hn := numW_le (seg_all hall i (q - i))
        by_cases hlt2 : q < i + m
        · have hq2 : (q : Int) < i + m := by omega
          have hx : w[q]? = some w[q] := List.getElem?_eq_getElem (by omega)
          have hu := isL_range (List.all_eq_true.1 hall _ (List.getElem_mem (show q < w.length by omega)))
          have e1 : q + 1 - i = q - i + 1 := by omega
          have hsn : numW (seg w i (q + 1 - i)) = numW (seg w i (q - i)) + (w[q].toNat - 97) := by
            rw [e1, segS_snoc (by omega), numW_snoc]
            simp only [show i + (q - i) = q by omega]
          generalize w[q] = u at *
          simp (disch := omega) [hq2]
          refine l01At_does w q u _ _ (by omega) hx ?_
          simp (disch := omega)
          refine Rnd.mk' (q + 1) (by omega) (by (repeat (first | exact km | refine kp rfl ?_ | refine km' rfl ?_))) (by simp (disch := omega); omega) ⟨rfl, by omega, by omega⟩
        · have hq' : q = i + m := by omega
          subst hq'
          have hq2 : ¬ ((i + m : Nat) : Int) < i + m := by omega
          rw [show i + m - i = m by omega] at hn hsl
          have hz : numW (seg w i m) < 300 := by omega
          have hst := metB_set (segsA w m i) (seg w i m) hz
          rw [← segsA_succ] at hst
          have hl300 := ml (segsA w m i)
          have hl301 := ml (segsA w m (i + 1))
          rw [show i + m - i = m by omega]
          obtain ⟨Q, hQ⟩ : ∃ Q, Q = i + m := ⟨_, rfl⟩
          rw [← hQ] at hq2 ⊢
          generalize numW (seg w i m) = z at *
          generalize metB (segsA w m i) = B at *
          generalize hB2 : metB (segsA w m (i + 1)) = B' at *
          simp (disch := omega) [hq2, h12, Ne.symm h12, hst]
          refine Rnd.mk' (i + 1) (by omega) (by (repeat (first | exact km | refine kp rfl ?_ | refine km' rfl ?_))) (by simp (disch := omega)) ⟨by rw [hB2], by omega⟩
      · have hi' : i = w.length + 1 - m := by omega
        rw [← hi'] at h
        have hgt : ¬ (i : Int) + m ≤ w.length := by omega
        generalize segsA w m i = L at *
        have k1 : (M.put b1 (.cells true (metB L) 300)) b1 = some (.cells true (metB L) 300) := put_same _ _ _
        have hM2 : (M.put b1 (.cells true (metB L) 300)) b2 = none := by rw [put_none]; exact hb2
        have sN : Sub M (M.put b1 (.cells true (metB L) 300)) := (Sub.refl M).put hb1 _
        have o0 : Own (M.put b1 (.cells true (metB L) 300)) (.slice (some ⟨b2, 0, none⟩) 0 0) [] ((M.put b1 (.cells true (metB L) 300)).put b2 (.cells true [] 0)) := Own.new hM2 rfl (Nat.le_refl 0)
        simp (disch := omega) [hgt]
        generalize M.put b1 (.cells true (metB L) 300) = N at *
        generalize N.put b2 (.cells true [] 0) = N1 at *
        generalize Value.slice (some ⟨b2, 0, none⟩) 0 0 = v0 at *
        refine loop_to tab_ok [7, 11, 46, 47, 48, 49, 50, 51, 52, 53, 54, 55, 56, 57, 58, 59] (fun x : Nat × Value => [(11, .int .i64 x.1), (7, x.2)]) (fun x M' => x.1 ≤ 300 ∧ Own N x.2 (ints (metL L x.1)) M') (fun x => 300 - x.1) (0, v0) (by kernel_rfl) (by simp (disch := omega)) ⟨by omega, o0⟩ ?_
        rintro ⟨s, v⟩ M' g2 ⟨hs, ho⟩
        simp only at hs ho
        by_cases hlt3 : s < 300
        · have k1' := ho.sub _ _ k1
          have hg : M'.get? b1 s = some (.bool (L.any fun u => numW u == s)) := by rw [get_of k1', metB_get _ hlt3]
          have hml := metL_len L s
          have hmm := metL_succ L s
          generalize (L.any fun u => numW u == s) = q at *
          simp (disch := omega) [hg]
          cases q
          · simp (disch := omega)
            refine Rnd.mk' (s + 1, v) (by simp only; omega) (by (repeat (first | exact km | refine kp rfl ?_ | refine km' rfl ?_))) (by simp (disch := omega)) ⟨by simp only; omega, ?_⟩
            simp only
            rw [hmm]
            simpa using ho
          · simp (disch := omega)
            intro b' hb'
            simp (disch := omega)
            refine app_own ho ((Sub.refl _).put hb' _) (by simp (disch := omega); rfl) rfl rfl (by omega) (by simp (disch := omega)) (by simp (disch := omega); omega) ?_
            intro v' M'' N'' ho' hs'
            simp (disch := omega)
            refine Rnd.mk'' M'' (s + 1, v') hs' (by simp only; omega) (by (repeat (first | exact km | refine kp rfl ?_ | refine km' rfl ?_))) (by simp (disch := omega)) ⟨by simp only; omega, ?_⟩
            simp only
            rw [hmm, if_pos rfl, ← ints_append]
            exact ho'
        · have hs' : s = 300 := by omega
          subst hs'
          simp (disch := omega)
          obtain ⟨M2, o2, z2⟩ := ho.base sN
          exact ret_sub z2 (h v M2 o2)
    · rw [if_neg h1, if_neg h1] at h
      rw [decide_eq_false h1]
      simp (disch := omega)
      exact ret_of (h _ _ (Own.nil M))
end Go.Proofs.YthpcojnpiggaiaaGreat

/- The plain law of sums: sorted numbers without repeats are the numbers that are met, in order. -/
import Derived.Test.YtbefijbmgmbphaaC32
namespace Go.Proofs.Ytbefijbmgmbphaa
open Go
set_option linter.unusedSimpArgs false
set_option linter.unusedVariables false

def numW (u : List UInt8) : Nat := (u.map fun c => c.toNat - 97).sum
theorem numW_snoc (u : List UInt8) (c : UInt8) : numW (u ++ [c]) = numW u + (c.toNat - 97) := by simp [numW]
theorem numW_le {u : List UInt8} (h : u.all isL = true) : numW u ≤ 4 * u.length := by
  induction u with
  | nil => simp [numW]
  | cons c l ih =>
    rw [List.all_cons, Bool.and_eq_true] at h
    have h1 := isL_range h.1
    have h2 := ih h.2
    have : numW (c :: l) = (c.toNat - 97) + numW l := by simp [numW]
    rw [this, List.length_cons]
    omega
/-- Two lists in strict order with the same elements. -/
theorem strict_same : ∀ {a b : List Int}, a.Pairwise (· < ·) → b.Pairwise (· < ·) → (∀ x, x ∈ a ↔ x ∈ b) → a = b
  | [], [], _, _, _ => rfl
  | [], y :: b, _, _, h => absurd ((h y).2 List.mem_cons_self) (by simp)
  | x :: a, [], _, _, h => absurd ((h x).1 List.mem_cons_self) (by simp)
  | x :: a, y :: b, ha, hb, h => by
    rw [List.pairwise_cons] at ha hb
    have hxy : x = y := by
      have h1 := (h x).1 List.mem_cons_self
      have h2 := (h y).2 List.mem_cons_self
      rcases List.mem_cons.1 h1 with e | e
      · exact e
      · rcases List.mem_cons.1 h2 with e2 | e2
        · exact e2.symm
        · have := hb.1 x e
          have := ha.1 y e2
          omega
    subst hxy
    congr 1
    refine strict_same ha.2 hb.2 fun z => ?_
    constructor
    · intro hz
      rcases List.mem_cons.1 ((h z).1 (List.mem_cons_of_mem _ hz)) with e | e
      · have := ha.1 z hz; omega
      · exact e
    · intro hz
      rcases List.mem_cons.1 ((h z).2 (List.mem_cons_of_mem _ hz)) with e | e
      · have := hb.1 z hz; omega
      · exact e
/-- What is kept of a sorted list is in strict order. -/
theorem upTo_strict {zs : List Int} (hs : zs.Pairwise (· ≤ ·)) : ∀ m, m ≤ zs.length → (Lib.compactUpTo zs.toArray m).Pairwise (· < ·)
  | 0, _ => by simp [Lib.compactUpTo]
  | m + 1, hm => by
    rw [Lib.compactUpTo_succ, List.pairwise_append]
    refine ⟨upTo_strict hs m (by omega), by split <;> simp, ?_⟩
    intro x hx y hy
    cases hk : Lib.keeps zs.toArray m with
    | false => rw [hk] at hy; simp at hy
    | true =>
      rw [hk, if_pos rfl, List.mem_singleton] at hy
      subst hy
      obtain ⟨j, hj, rfl⟩ := (mem_upTo _ _ _).1 hx
      have hg : ∀ i, (hi : i < zs.length) → zs.toArray[i]! = zs[i] := fun i hi => by rw [getElem!_pos _ i (by simpa using hi)]; simp
      rw [hg j (by omega), hg m (by omega)]
      have hle : ∀ i k, (hk : k < zs.length) → (hi : i ≤ k) → zs[i]'(by omega) ≤ zs[k] := fun i k hk hi => by
        rcases Nat.lt_or_eq_of_le hi with h | h
        · exact List.pairwise_iff_getElem.1 hs i k (by omega) hk h
        · subst h; exact Int.le_refl _
      have h1 := hle j (m - 1) (by omega) (by omega)
      have h2 := hle (m - 1) m (by omega) (by omega)
      simp only [Lib.keeps, decide_eq_true_eq] at hk
      rcases hk with h0 | hne
      · omega
      · rw [hg m (by omega), hg (m - 1) (by omega)] at hne
        omega
def srtI (zs : List Int) : List Int := Lib.compact (zs.mergeSort fun x y => decide (x ≤ y))
theorem mem_srtI (zs : List Int) (x : Int) : x ∈ srtI zs ↔ x ∈ zs := by
  unfold srtI
  rw [mem_compact]
  exact List.mem_mergeSort
theorem srtI_strict (zs : List Int) : (srtI zs).Pairwise (· < ·) := by
  unfold srtI Lib.compact
  refine upTo_strict ?_ _ (Nat.le_refl _)
  have := List.pairwise_mergeSort (le := fun x y : Int => decide (x ≤ y)) (fun a b c h1 h2 => decide_eq_true (Int.le_trans (of_decide_eq_true h1) (of_decide_eq_true h2))) (fun a b => by
    rcases Int.le_total a b with h | h
    · rw [decide_eq_true h]; rfl
    · rw [decide_eq_true h, Bool.or_true]) zs
  exact this.imp fun h => of_decide_eq_true h
/-- The numbers below a bound that are met, in order. -/
def metL (L : List (List UInt8)) (n : Nat) : List Int := ((List.range n).filter fun s => L.any fun u => numW u == s).map fun s : Nat => (s : Int)
theorem metL_succ (L : List (List UInt8)) (n : Nat) : metL L (n + 1) = metL L n ++ if (L.any fun u => numW u == n) then [(n : Int)] else [] := by
  unfold metL
  rw [List.range_succ, List.filter_append, List.map_append]
  congr 1
  by_cases h : (L.any fun u => numW u == n) = true <;> simp [h]
theorem metL_strict (L : List (List UInt8)) : ∀ n, (metL L n).Pairwise (· < ·)
  | 0 => by simp [metL]
  | n + 1 => by
    rw [metL_succ, List.pairwise_append]
    refine ⟨metL_strict L n, by split <;> simp, ?_⟩
    intro x hx y hy
    split at hy
    · rw [List.mem_singleton] at hy
      obtain ⟨s, hs, rfl⟩ := List.mem_map.1 hx
      have := List.mem_range.1 (List.mem_filter.1 hs).1
      omega
    · simp at hy
theorem met_same {L L' : List (List UInt8)} {n : Nat} (hb : ∀ u ∈ L, numW u < n) (hL : ∀ u, u ∈ L' ↔ u ∈ L) : srtI (L'.map fun u => (numW u : Int)) = metL L n := by
  refine strict_same (srtI_strict _) (metL_strict L n) fun x => ?_
  rw [mem_srtI]
  unfold metL
  constructor
  · intro h
    obtain ⟨u, hu, rfl⟩ := List.mem_map.1 h
    have hu' := (hL u).1 hu
    exact List.mem_map.2 ⟨numW u, List.mem_filter.2 ⟨List.mem_range.2 (hb u hu'), List.any_eq_true.2 ⟨u, hu', by simp⟩⟩, rfl⟩
  · intro h
    obtain ⟨s, hs, rfl⟩ := List.mem_map.1 h
    obtain ⟨u, hu, he⟩ := List.any_eq_true.1 (List.mem_filter.1 hs).2
    exact List.mem_map.2 ⟨u, (hL u).2 hu, by rw [beq_iff_eq] at he; rw [he]⟩
/-- The marks of the numbers that are met. -/
def metB (L : List (List UInt8)) : List Value := (List.range 300).map fun s => Value.bool (L.any fun u => numW u == s)
theorem metB_length (L : List (List UInt8)) : (metB L).length = 300 := by unfold metB; rw [List.length_map, List.length_range]
theorem metB_get (L : List (List UInt8)) {s : Nat} (h : s < 300) : (metB L)[s]? = some (.bool (L.any fun u => numW u == s)) := by
  unfold metB
  rw [List.getElem?_map, List.getElem?_range h]; rfl
theorem metB_nil : List.replicate 300 (Value.bool false) = metB [] := by
  apply List.ext_getElem?
  intro i
  by_cases h : i < 300
  · rw [metB_get _ h, List.getElem?_replicate_of_lt h]; rfl
  · rw [List.getElem?_eq_none (by rw [List.length_replicate]; omega), List.getElem?_eq_none (by rw [metB_length]; omega)]
theorem metB_set (L : List (List UInt8)) (u : List UInt8) (h : numW u < 300) : (metB L).set (numW u) (.bool true) = metB (L ++ [u]) := by
  apply List.ext_getElem?
  intro i
  by_cases hi : i < 300
  · rw [metB_get _ hi]
    by_cases e : numW u = i
    · subst e
      rw [List.getElem?_set_self (by rw [metB_length]; exact h)]
      simp
    · rw [List.getElem?_set_ne e, metB_get _ hi, List.any_append]
      simp [e]
  · rw [List.getElem?_eq_none (by rw [List.length_set, metB_length]; omega), List.getElem?_eq_none (by rw [metB_length]; omega)]
theorem metL_len (L : List (List UInt8)) (n : Nat) : (metL L n).length ≤ n := by
  unfold metL
  rw [List.length_map]
  have := List.length_filter_le (fun s => L.any fun u => numW u == s) (List.range n)
  rw [List.length_range] at this
  exact this
def sumsC (w : List UInt8) (m : Int) : Int := if isWord w then (if 0 ≤ m ∧ m ≤ 60 then 0 else 2) else 1
def sumsR (w : List UInt8) (m : Int) : List Int := if isWord w then (if 0 ≤ m ∧ m ≤ 60 then metL (segsA w m.toNat (w.length + 1 - m.toNat)) 300 else []) else []
theorem sumsR_len (w : List UInt8) (m : Int) : (sumsR w m).length ≤ 300 := by
  unfold sumsR
  split
  · split
    · exact metL_len _ _
    · simp
  · simp
end Go.Proofs.Ytbefijbmgmbphaa

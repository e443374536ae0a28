/- Plain law: lists of words in strict order; a word put into such a list. -/
import Derived.Test.YthpcojnpiggaiaaGreatCH
namespace Go.Proofs.YthpcojnpiggaiaaGreat
open Go
set_option linter.unusedVariables false

theorem bl_iff : ∀ a b : List UInt8, Op.bytesLess a b = true ↔ a < b
  | [], [] => by
    have e : Op.bytesLess [] [] = false := rfl
    rw [e]
    exact ⟨fun h => by (cases h), fun h => absurd h (List.lt_irrefl _)⟩
  | [], b :: y => by
    have e : Op.bytesLess [] (b :: y) = true := rfl
    rw [e]
    exact ⟨fun _ => List.nil_lt_cons b y, fun _ => rfl⟩
  | a :: x, [] => by
    have e : Op.bytesLess (a :: x) [] = false := rfl
    rw [e]
    exact ⟨fun h => by (cases h), fun h => absurd h (List.not_lt_nil _)⟩
  | a :: x, b :: y => by
    have e : Op.bytesLess (a :: x) (b :: y) = (decide (a < b) || (a == b && Op.bytesLess x y)) := rfl
    rw [e, Bool.or_eq_true, Bool.and_eq_true, decide_eq_true_eq, beq_iff_eq, List.cons_lt_cons_iff, bl_iff x y]
theorem bl_no {a b : List UInt8} : Op.bytesLess a b = false ↔ b ≤ a := by
  rw [← List.not_lt, ← bl_iff]
  cases Op.bytesLess a b <;> simp
abbrev Strict (l : List (List UInt8)) : Prop := l.Pairwise (· < ·)
theorem strictW_same : ∀ {a b : List (List UInt8)}, Strict a → Strict b → (∀ x, x ∈ a ↔ x ∈ b) → a = b
  | [], [], _, _, _ => rfl
  | [], y :: b, _, _, h => absurd ((h y).2 List.mem_cons_self) (by simp)
  | x :: a, [], _, _, h => absurd ((h x).1 List.mem_cons_self) (by simp)
  | x :: a, y :: b, ha, hb, h => by
    unfold Strict at ha hb
    rw [List.pairwise_cons] at ha hb
    have hxy : x = y := by
      have h1 := (h x).1 List.mem_cons_self
      have h2 := (h y).2 List.mem_cons_self
      rcases List.mem_cons.1 h1 with e | e
      · exact e
      · rcases List.mem_cons.1 h2 with e2 | e2
        · exact e2.symm
        · exact absurd (List.lt_trans (hb.1 x e) (ha.1 y e2)) (List.lt_irrefl _)
    subst hxy
    congr 1
    refine strictW_same ha.2 hb.2 fun z => ?_
    constructor
    · intro hz
      rcases List.mem_cons.1 ((h z).1 (List.mem_cons_of_mem _ hz)) with e | e
      · exact absurd (e ▸ ha.1 z hz) (List.lt_irrefl _)
      · exact e
    · intro hz
      rcases List.mem_cons.1 ((h z).2 (List.mem_cons_of_mem _ hz)) with e | e
      · exact absurd (e ▸ hb.1 z hz) (List.lt_irrefl _)
      · exact e
theorem lt_of_le_ne {a b : List UInt8} (h : a ≤ b) (hn : a ≠ b) : a < b := by
  by_cases hl : a < b
  · exact hl
  · exact absurd (List.le_antisymm h (List.not_lt.1 hl)) hn
theorem upTo_strictW {zs : List (List UInt8)} (hs : zs.Pairwise (· ≤ ·)) : ∀ m, m ≤ zs.length → Strict (Lib.compactUpTo zs.toArray m)
  | 0, _ => by simp [Lib.compactUpTo, Strict]
  | m + 1, hm => by
    rw [Lib.compactUpTo_succ]
    unfold Strict
    rw [List.pairwise_append]
    refine ⟨upTo_strictW hs m (by omega), by split <;> simp, ?_⟩
    intro x hx y hy
    cases hk : Lib.keeps zs.toArray m with
    | false => rw [hk] at hy; simp at hy
    | true =>
      rw [hk, if_pos rfl, List.mem_singleton] at hy
      subst hy
      obtain ⟨j, hj, rfl⟩ := (mem_upTo _ _ _).1 hx
      have hg : ∀ i, (hi : i < zs.length) → zs.toArray[i]! = zs[i] := fun i hi => by rw [getElem!_pos _ i (by simpa using hi)]; simp
      rw [hg j (by omega), hg m (by omega)]
      have hle : ∀ i k, (hk : k < zs.length) → (hi : i ≤ k) → zs[i]'(by omega) ≤ zs[k] := fun i k hk hi => by
        rcases Nat.lt_or_eq_of_le hi with h | h
        · exact List.pairwise_iff_getElem.1 hs i k (by omega) hk h
        · subst h; exact List.le_refl _
      have h1 := hle j (m - 1) (by omega) (by omega)
      have h2 := hle (m - 1) m (by omega) (by omega)
      simp only [Lib.keeps, decide_eq_true_eq] at hk
      rcases hk with h0 | hne
      · omega
      · rw [hg m (by omega), hg (m - 1) (by omega)] at hne
        exact lt_of_le_ne (List.le_trans h1 h2) fun e => hne (List.le_antisymm (e ▸ h1) h2)
theorem srt_strict (zs : List (List UInt8)) : Strict (srt zs) := by
  unfold srt Lib.compact
  refine upTo_strictW ?_ _ (Nat.le_refl _)
  have := List.pairwise_mergeSort (le := fun x y : List UInt8 => decide (x ≤ y)) (fun a b c h1 h2 => decide_eq_true (List.le_trans (of_decide_eq_true h1) (of_decide_eq_true h2))) (fun a b => by
    rcases List.le_total a b with h | h
    · rw [decide_eq_true h]; rfl
    · rw [decide_eq_true h, Bool.or_true]) zs
  exact this.imp fun h => of_decide_eq_true h
/-- How many of the first n words are at most w, counted from behind in a list in order. -/
def posF (L : List (List UInt8)) (w : List UInt8) : Nat → Nat
  | 0 => 0
  | n + 1 => if Op.bytesLess w (L.getD n []) then posF L w n else n + 1
theorem posF_le (L : List (List UInt8)) (w : List UInt8) : ∀ n, posF L w n ≤ n
  | 0 => Nat.le_refl 0
  | n + 1 => by
    unfold posF
    have := posF_le L w n
    split <;> omega
theorem posF_above (L : List (List UInt8)) (w : List UInt8) : ∀ n i, posF L w n ≤ i → i < n → w < L.getD i []
  | 0, i, _, h => by omega
  | n + 1, i, h1, h2 => by
    unfold posF at h1
    by_cases hb : Op.bytesLess w (L.getD n []) = true
    · rw [if_pos hb] at h1
      by_cases e : i = n
      · subst e; exact (bl_iff _ _).1 hb
      · exact posF_above L w n i h1 (by omega)
    · rw [if_neg hb] at h1; omega
theorem posF_below (L : List (List UInt8)) (w : List UInt8) : ∀ n, posF L w n ≠ 0 → L.getD (posF L w n - 1) [] ≤ w
  | 0, h => absurd rfl h
  | n + 1, h => by
    unfold posF at h ⊢
    by_cases hb : Op.bytesLess w (L.getD n []) = true
    · rw [if_pos hb] at h ⊢; exact posF_below L w n h
    · rw [if_neg hb, Nat.add_sub_cancel]
      exact bl_no.1 (by simpa using hb)
def putL (L : List (List UInt8)) (w : List UInt8) : List (List UInt8) :=
  if posF L w L.length ≠ 0 ∧ L.getD (posF L w L.length - 1) [] = w then L else L.take (posF L w L.length) ++ w :: L.drop (posF L w L.length)
theorem getD_at {L : List (List UInt8)} {i : Nat} (h : i < L.length) : L.getD i [] = L[i] := by rw [List.getD_eq_getElem?_getD, List.getElem?_eq_getElem h]; rfl
theorem mem_putL {L : List (List UInt8)} {w x : List UInt8} : x ∈ putL L w ↔ x ∈ L ∨ x = w := by
  unfold putL
  have hle := posF_le L w L.length
  generalize posF L w L.length = n at *
  split
  · rename_i h
    refine ⟨.inl, fun hx => ?_⟩
    rcases hx with hx | hx
    · exact hx
    · rw [hx, ← h.2, getD_at (by omega)]
      exact List.getElem_mem _
  · rw [List.mem_append, List.mem_cons]
    constructor
    · rintro (h | h | h)
      · exact .inl (List.mem_of_mem_take h)
      · exact .inr h
      · exact .inl (List.mem_of_mem_drop h)
    · rintro (h | h)
      · rw [← List.take_append_drop n L, List.mem_append] at h
        exact h.imp_right .inr
      · exact .inr (.inl h)
theorem putL_strict {L : List (List UInt8)} {w : List UInt8} (h : Strict L) : Strict (putL L w) := by
  unfold putL
  have hle := posF_le L w L.length
  have hab := posF_above L w L.length
  have hbe := posF_below L w L.length
  generalize posF L w L.length = n at *
  split
  · exact h
  · rename_i hn
    unfold Strict at h ⊢
    rw [List.pairwise_append, List.pairwise_cons]
    have hlt : ∀ x ∈ L.take n, x < w := by
      intro x hx
      obtain ⟨i, hi, rfl⟩ := List.mem_iff_getElem.1 hx
      rw [List.length_take] at hi
      rw [List.getElem_take]
      have hb := hbe (by omega)
      rw [getD_at (show n - 1 < L.length by omega)] at hb hn
      have hlast : L[n - 1]'(by omega) < w := lt_of_le_ne hb (fun e => hn ⟨by omega, e⟩)
      by_cases e : i = n - 1
      · subst e; exact hlast
      · exact List.lt_trans (List.pairwise_iff_getElem.1 h i (n - 1) (by omega) (by omega) (by omega)) hlast
    have hgt : ∀ x ∈ L.drop n, w < x := by
      intro x hx
      obtain ⟨i, hi, rfl⟩ := List.mem_iff_getElem.1 hx
      rw [List.length_drop] at hi
      rw [List.getElem_drop]
      have := hab (n + i) (by omega) (by omega)
      rw [getD_at (by omega)] at this
      exact this
    refine ⟨h.sublist (List.take_sublist _ _), ⟨hgt, h.sublist (List.drop_sublist _ _)⟩, ?_⟩
    intro x hx y hy
    rcases List.mem_cons.1 hy with e | e
    · rw [e]; exact hlt x hx
    · exact List.lt_trans (hlt x hx) (hgt y e)
theorem putL_len (L : List (List UInt8)) (w : List UInt8) : (putL L w).length ≤ L.length + 1 := by
  unfold putL
  split
  · omega
  · rw [List.length_append, List.length_cons, List.length_take, List.length_drop]; omega
/-- Words put one after the other into a list. -/
def putAll (L : List (List UInt8)) : List (List UInt8) → List (List UInt8)
  | [] => L
  | w :: l => putAll (putL L w) l
theorem putAll_snoc (l : List (List UInt8)) (w : List UInt8) : ∀ L, putAll L (l ++ [w]) = putL (putAll L l) w := by
  induction l with
  | nil => intro L; rfl
  | cons a l ih => intro L; exact ih (putL L a)
theorem putAll_strict : ∀ (l L : List (List UInt8)), Strict L → Strict (putAll L l)
  | [], L, h => h
  | w :: l, L, h => putAll_strict l _ (putL_strict h)
theorem mem_putAll : ∀ (l L : List (List UInt8)) (x : List UInt8), x ∈ putAll L l ↔ x ∈ L ∨ x ∈ l
  | [], L, x => by simp [putAll]
  | w :: l, L, x => by
    show x ∈ putAll (putL L w) l ↔ _
    rw [mem_putAll l, mem_putL, List.mem_cons, or_assoc]
theorem putAll_len : ∀ (l L : List (List UInt8)), (putAll L l).length ≤ L.length + l.length
  | [], L => Nat.le_refl _
  | w :: l, L => by
    have h1 := putAll_len l (putL L w)
    have h2 := putL_len L w
    show (putAll (putL L w) l).length ≤ _
    rw [List.length_cons]; omega
/-- What is put together one after the other is what is sorted and compacted. -/
theorem putAll_srt (l : List (List UInt8)) : putAll [] l = srt l :=
  strictW_same (putAll_strict l [] List.Pairwise.nil) (srt_strict l) fun x => by rw [mem_putAll, mem_srt]; simp
end Go.Proofs.YthpcojnpiggaiaaGreat

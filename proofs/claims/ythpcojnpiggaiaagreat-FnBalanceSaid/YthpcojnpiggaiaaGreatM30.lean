/- Plain law: a part of bytes yet to be sorted, between parts that are. -/
import Derived.Test.YthpcojnpiggaiaaGreatCN
namespace Go.Proofs.YthpcojnpiggaiaaGreat
set_option linter.unusedVariables false

structure Mid (lo hi a e : Nat) (L : List UInt8) : Prop where
  l1 : lo ≤ a
  l2 : a ≤ e
  l3 : e ≤ hi
  left : ∀ x y, lo ≤ x → x < a → a ≤ y → y < hi → K L x ≤ K L y
  right : ∀ x y, lo ≤ x → x < e → e ≤ y → y < hi → K L x ≤ K L y
  sl : SS lo a L
  sr : SS e hi L
  pre : 1 ≤ lo → ∀ y, lo ≤ y → y < hi → K L (lo - 1) ≤ K L y
theorem Mid.pa {lo hi a e : Nat} {L : List UInt8} (h : Mid lo hi a e L) (ha : 1 ≤ a) : ∀ y, a ≤ y → y < hi → K L (a - 1) ≤ K L y := by
  intro y h1 h2
  have := h.l1
  by_cases e : a = lo
  · subst e; exact h.pre ha y h1 h2
  · exact h.left (a - 1) y (by omega) (by omega) h1 h2
theorem Mid.sp {lo hi a e : Nat} {L L' : List UInt8} (h : Mid lo hi a e L) (hs : SP a e L L') : Mid lo hi a e L' := by
  have h1 := h.l1
  have h2 := h.l2
  have h3 := h.l3
  refine ⟨h1, h2, h3, fun x y a1 a2 a3 a4 => ?_, fun x y a1 a2 a3 a4 => ?_, h.sl.same fun i b1 b2 => hs.out i (by omega), h.sr.same fun i b1 b2 => hs.out i (by omega), fun hl y a1 a2 => ?_⟩
  · rw [hs.out x (by omega)]
    by_cases hy : y < e
    · exact hs.inn (fun v => K L x ≤ v) (fun i b1 b2 => h.left x i a1 a2 b1 (by omega)) y a3 hy
    · rw [hs.out y (by omega)]; exact h.left x y a1 a2 a3 a4
  · rw [hs.out y (by omega)]
    by_cases hx : a ≤ x
    · exact hs.inn (fun v => v ≤ K L y) (fun i b1 b2 => h.right i y (by omega) b2 a3 a4) x hx a2
    · rw [hs.out x (by omega)]; exact h.right x y a1 a2 a3 a4
  · rw [hs.out (lo - 1) (by omega)]
    by_cases hy : a ≤ y ∧ y < e
    · exact hs.inn (fun v => K L (lo - 1) ≤ v) (fun i b1 b2 => h.pre hl i (by omega) (by omega)) y hy.1 hy.2
    · rw [hs.out y (by omega)]; exact h.pre hl y a1 a2
theorem Mid.fin {lo hi a e : Nat} {L : List UInt8} (h : Mid lo hi a e L) (hs : SS a e L) : SS lo hi L := by
  intro x y h1 h2 h3
  by_cases e1 : x < a
  · by_cases e2 : y < a
    · exact h.sl x y h1 h2 e2
    · exact h.left x y h1 e1 (by omega) h3
  · by_cases e2 : e ≤ x
    · exact h.sr x y e2 h2 h3
    · by_cases e3 : y < e
      · exact hs x y (by omega) h2 e3
      · exact h.right x y h1 (by omega) (by omega) h3
theorem Mid.goR {lo hi a e m : Nat} {L : List UInt8} (h : Mid lo hi a e L) (h1 : a ≤ m) (h2 : m < e) (hs : SS a m L) (ha : ∀ x, a ≤ x → x < m → K L x ≤ K L m) (hb : ∀ y, m < y → y < e → K L m ≤ K L y) : Mid lo hi (m + 1) e L := by
  have l1 := h.l1
  have l3 := h.l3
  have up : ∀ y, m ≤ y → y < hi → K L m ≤ K L y := fun y b1 b2 => by
    by_cases c1 : y = m
    · subst c1; exact Nat.le_refl _
    · by_cases c2 : y < e
      · exact hb y (by omega) c2
      · exact h.right m y (by omega) h2 (by omega) b2
  refine ⟨by omega, by omega, l3, fun x y a1 a2 a3 a4 => ?_, h.right, ?_, h.sr, h.pre⟩
  · by_cases c1 : x < a
    · exact h.left x y a1 c1 (by omega) a4
    · by_cases c2 : x = m
      · subst c2; exact up y (by omega) a4
      · exact Nat.le_trans (ha x (by omega) (by omega)) (up y (by omega) a4)
  · intro x y a1 a2 a3
    by_cases c1 : x < a
    · by_cases c2 : y < a
      · exact h.sl x y a1 a2 c2
      · exact h.left x y a1 c1 (by omega) (by omega)
    · by_cases c2 : y = m
      · subst c2; exact ha x (by omega) a2
      · exact hs x y (by omega) a2 (by omega)
theorem Mid.goL {lo hi a e m : Nat} {L : List UInt8} (h : Mid lo hi a e L) (h1 : a ≤ m) (h2 : m < e) (hs : SS (m + 1) e L) (ha : ∀ x, a ≤ x → x < m → K L x ≤ K L m) (hb : ∀ y, m < y → y < e → K L m ≤ K L y) : Mid lo hi a m L := by
  have l1 := h.l1
  have l3 := h.l3
  have dn : ∀ x, lo ≤ x → x ≤ m → K L x ≤ K L m := fun x b1 b2 => by
    by_cases c1 : x = m
    · subst c1; exact Nat.le_refl _
    · by_cases c2 : a ≤ x
      · exact ha x c2 (by omega)
      · exact h.left x m b1 (by omega) h1 (by omega)
  have up : ∀ y, m ≤ y → y < hi → K L m ≤ K L y := fun y b1 b2 => by
    by_cases c1 : y = m
    · subst c1; exact Nat.le_refl _
    · by_cases c2 : y < e
      · exact hb y (by omega) c2
      · exact h.right m y (by omega) h2 (by omega) b2
  refine ⟨l1, h1, by omega, h.left, fun x y a1 a2 a3 a4 => Nat.le_trans (dn x a1 (by omega)) (up y a3 a4), h.sl, ?_, h.pre⟩
  intro x y a1 a2 a3
  by_cases c1 : x = m
  · subst c1; exact up y (by omega) a3
  · by_cases c2 : e ≤ x
    · exact h.sr x y c2 a2 a3
    · by_cases c3 : y < e
      · exact hs x y (by omega) a2 c3
      · exact h.right x y (by omega) (by omega) (by omega) a3
theorem Mid.goE {lo hi a e m p : Nat} {L : List UInt8} (h : Mid lo hi a e L) (h1 : a < m) (h2 : m ≤ e) (ha : ∀ x, a ≤ x → x < m → K L x ≤ p) (hb : ∀ y, m ≤ y → y < e → p < K L y) (hp : ∀ y, a ≤ y → y < e → p ≤ K L y) : Mid lo hi m e L := by
  have l1 := h.l1
  have l3 := h.l3
  refine ⟨by omega, h2, l3, fun x y a1 a2 a3 a4 => ?_, h.right, ?_, h.sr, h.pre⟩
  · by_cases c1 : x < a
    · exact h.left x y a1 c1 (by omega) a4
    · by_cases c2 : y < e
      · have := ha x (by omega) a2
        have := hb y a3 c2
        omega
      · exact h.right x y a1 (by omega) (by omega) a4
  · intro x y a1 a2 a3
    by_cases c1 : x < a
    · by_cases c2 : y < a
      · exact h.sl x y a1 a2 c2
      · exact h.left x y a1 c1 (by omega) (by omega)
    · have := ha x (by omega) (by omega)
      have := hp y (by omega) (by omega)
      omega
/-- The pivot stays between its parts, when one of them is sorted. -/
theorem SP.left {a m e : Nat} {L L' : List UInt8} (hs : SP a m L L') (ha : ∀ x, a ≤ x → x < m → K L x ≤ K L m) (hb : ∀ y, m < y → y < e → K L m ≤ K L y) : (∀ x, a ≤ x → x < m → K L' x ≤ K L' m) ∧ ∀ y, m < y → y < e → K L' m ≤ K L' y := by
  rw [hs.out m (by omega)]
  refine ⟨fun x h1 h2 => hs.inn (fun v => v ≤ K L m) ha x h1 h2, fun y h1 h2 => ?_⟩
  rw [hs.out y (by omega)]; exact hb y h1 h2
theorem SP.right {a m e : Nat} {L L' : List UInt8} (hs : SP (m + 1) e L L') (ha : ∀ x, a ≤ x → x < m → K L x ≤ K L m) (hb : ∀ y, m < y → y < e → K L m ≤ K L y) : (∀ x, a ≤ x → x < m → K L' x ≤ K L' m) ∧ ∀ y, m < y → y < e → K L' m ≤ K L' y := by
  rw [hs.out m (by omega)]
  refine ⟨fun x h1 h2 => ?_, fun y h1 h2 => hs.inn (fun v => K L m ≤ v) (fun i b1 b2 => hb i (by omega) b2) y (by omega) h2⟩
  rw [hs.out x (by omega)]; exact ha x h1 h2
end Go.Proofs.YthpcojnpiggaiaaGreat

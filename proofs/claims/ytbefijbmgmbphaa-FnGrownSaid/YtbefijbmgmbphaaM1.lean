/- Plain law: paths in a graph of m places; if all places are joined by paths of m m + 1 steps, then also by paths of m m steps. -/
import Derived.Test.YtbefijbmgmbphaaE0
namespace Go.Proofs.Ytbefijbmgmbphaa
namespace Paths
variable {m : Nat} {E : Nat → Nat → Prop}
/-- A path of k steps. -/
def P (m : Nat) (E : Nat → Nat → Prop) : Nat → Nat → Nat → Prop
  | 0, i, c => i = c
  | k + 1, i, c => ∃ d, d < m ∧ P m E k i d ∧ E d c
theorem p_add : ∀ (b a : Nat) {i d c : Nat}, d < m → P m E a i d → P m E b d c → P m E (a + b) i c
  | 0, a, i, d, c, _, h1, h2 => by
    have : d = c := h2
    subst this; exact h1
  | b + 1, a, i, d, c, hd, h1, ⟨e, he, h2, h3⟩ => ⟨e, he, p_add b a hd h1 h2, h3⟩
theorem p_split : ∀ (b a : Nat) {i c : Nat}, c < m → P m E (a + b) i c → ∃ d, d < m ∧ P m E a i d ∧ P m E b d c
  | 0, a, i, c, hc, h => ⟨c, hc, h, rfl⟩
  | b + 1, a, i, c, _, ⟨e, he, h2, h3⟩ => by
    obtain ⟨d, hd, k1, k2⟩ := p_split b a he h2
    exact ⟨d, hd, k1, e, he, k2, h3⟩
theorem count_lt (l : List Nat) (p q : Nat → Bool) (h : ∀ x, p x = true → q x = true) {c : Nat} (hc : c ∈ l) (h1 : q c = true) (h2 : p c = false) : l.countP p < l.countP q := by
  induction l with
  | nil => cases hc
  | cons a l ih =>
    rw [List.countP_cons, List.countP_cons]
    have hm : l.countP p ≤ l.countP q := List.countP_mono_left fun x _ hx => h x hx
    rcases List.mem_cons.1 hc with rfl | hc
    · rw [h1, h2]; simp; omega
    · have := ih hc
      have ha := h a
      cases hp : p a
      · cases q a <;> simp <;> omega
      · rw [ha hp]; simp; omega
open Classical in
/-- Growing sets are full after as many steps as there are places but one. -/
theorem grown (U : Nat → Nat → Prop) (h0 : ∃ c, c < m ∧ U 0 c) (hup : ∀ t c, U t c → U (t + 1) c) (hg : ∀ t, (∀ c, c < m → U t c) ∨ ∃ c, c < m ∧ U (t + 1) c ∧ ¬ U t c) : ∀ c, c < m → U (m - 1) c := by
  have hcnt : ∀ t, t < m → t + 1 ≤ (List.range m).countP (fun c => decide (U t c)) := by
    intro t
    induction t with
    | zero =>
      intro _
      obtain ⟨c, hc, h⟩ := h0
      have := List.countP_pos_iff (p := fun c => decide (U 0 c)) (l := List.range m)
      have := this.2 ⟨c, List.mem_range.2 hc, by simpa using h⟩
      omega
    | succ t ih =>
      intro ht
      have ih := ih (by omega)
      have hmono : ∀ x, decide (U t x) = true → decide (U (t + 1) x) = true := by
        intro x hx
        rw [decide_eq_true_eq] at hx ⊢
        exact hup t x hx
      rcases hg t with hf | ⟨c, hc, h1, h2⟩
      · have : (List.range m).countP (fun c => decide (U (t + 1) c)) = (List.range m).length := List.countP_eq_length.2 fun x hx => by
          rw [decide_eq_true_eq]
          exact hup t x (hf x (List.mem_range.1 hx))
        rw [List.length_range] at this
        omega
      · have := count_lt (List.range m) (fun c => decide (U t c)) (fun c => decide (U (t + 1) c)) hmono (List.mem_range.2 hc) (by simpa using h1) (by simpa using h2)
        omega
  intro c hc
  have h1 := hcnt (m - 1) (by omega)
  have h2 := List.countP_le_length (p := fun c => decide (U (m - 1) c)) (l := List.range m)
  rw [List.length_range] at h2
  have h3 : (List.range m).countP (fun c => decide (U (m - 1) c)) = (List.range m).length := by rw [List.length_range]; omega
  have := List.countP_eq_length.1 h3 c (List.mem_range.2 hc)
  simpa using this
/-- All places are joined by paths of k steps. -/
def Full (m : Nat) (E : Nat → Nat → Prop) (k : Nat) : Prop := ∀ i c, i < m → c < m → P m E k i c
theorem full_up {N k i : Nat} (h : Full m E (N + 1)) (hi : i < m) (hk : ∀ c, c < m → P m E k i c) : ∀ c, c < m → P m E (k + 1) i c := by
  intro c hc
  obtain ⟨d, hd, _, h3⟩ := h i c hi hc
  exact ⟨d, hd, hk d hd, h3⟩
theorem full_ups {N k i : Nat} (h : Full m E (N + 1)) (hi : i < m) (hk : ∀ c, c < m → P m E k i c) : ∀ n c, c < m → P m E (k + n) i c
  | 0, c, hc => hk c hc
  | n + 1, c, hc => full_up h hi (full_ups h hi hk n) c hc
open Classical in
theorem near {N : Nat} (h : Full m E (N + 1)) {i c : Nat} (hi : i < m) (hc : c < m) : ∃ t, t ≤ m - 1 ∧ P m E t i c := by
  refine grown (m := m) (fun t c => ∃ s, s ≤ t ∧ P m E s i c) ⟨i, hi, 0, Nat.le_refl 0, rfl⟩ (fun t c ⟨s, hs, h⟩ => ⟨s, by omega, h⟩) ?_ c hc
  intro t
  by_cases hcl : ∃ c, c < m ∧ (∃ s, s ≤ t + 1 ∧ P m E s i c) ∧ ¬ ∃ s, s ≤ t ∧ P m E s i c
  · exact .inr hcl
  · left
    have hall : ∀ n c, c < m → P m E n i c → ∃ s, s ≤ t ∧ P m E s i c := by
      intro n
      induction n with
      | zero => intro c _ h; exact ⟨0, Nat.zero_le t, h⟩
      | succ n ih =>
        intro c hc ⟨d, hd, h1, h2⟩
        obtain ⟨s, hs, h3⟩ := ih d hd h1
        refine Classical.byContradiction fun hn => hcl ⟨c, hc, ⟨s + 1, by omega, d, hd, h3, h2⟩, hn⟩
    intro c hc
    exact hall _ c hc (h i c hi hc)
open Classical in
theorem shorter (hm : 1 ≤ m) (h : Full m E (m * m + 1)) : Full m E (m * m) := by
  -- a round trip of the place 0
  obtain ⟨s, hs1, hs2, hs⟩ : ∃ s, 1 ≤ s ∧ s ≤ m ∧ P m E s 0 0 := by
    have h00 := h 0 0 (by omega) (by omega)
    rw [show m * m + 1 = 1 + m * m by omega] at h00
    obtain ⟨d, hd, h1, _⟩ := p_split (m * m) 1 (by omega) h00
    obtain ⟨t, ht, h2⟩ := near h hd (show 0 < m by omega)
    exact ⟨1 + t, by omega, by omega, p_add t 1 hd h1 h2⟩
  have hV : ∀ c, c < m → P m E (s * (m - 1)) 0 c := by
    refine grown (m := m) (fun t c => P m E (s * t) 0 c) ⟨0, by omega, rfl⟩ ?_ ?_
    · intro t c hc
      have := p_add (s * t) s (show 0 < m by omega) hs hc
      rw [show s * (t + 1) = s + s * t by rw [Nat.mul_succ]; omega]
      exact this
    · intro t
      by_cases hcl : ∃ c, c < m ∧ P m E (s * (t + 1)) 0 c ∧ ¬ P m E (s * t) 0 c
      · exact .inr hcl
      · left
        have hall : ∀ n c, c < m → P m E (s * n) 0 c → P m E (s * t) 0 c := by
          intro n
          induction n with
          | zero =>
            intro c hc h0
            have e : 0 = c := h0
            subst e
            clear hcl
            induction t with
            | zero => exact h0
            | succ t ih =>
              rw [show s * (t + 1) = s + s * t by rw [Nat.mul_succ]; omega]
              exact p_add (s * t) s (show 0 < m by omega) hs ih
          | succ n ih =>
            intro c hc hn
            rw [Nat.mul_succ] at hn
            obtain ⟨d, hd, h1, h2⟩ := p_split s (s * n) hc hn
            have := p_add s (s * t) hd (ih d hd h1) h2
            refine Classical.byContradiction fun hno => hcl ⟨c, hc, by rw [Nat.mul_succ]; exact this, hno⟩
        intro c hc
        refine hall (m * m + 1) c hc ?_
        obtain ⟨n, hn⟩ : ∃ n, s * (m * m + 1) = m * m + 1 + n := ⟨(s - 1) * (m * m + 1), by
          obtain ⟨s', rfl⟩ : ∃ s', s = s' + 1 := ⟨s - 1, by omega⟩
          rw [Nat.add_sub_cancel, Nat.add_mul]; omega⟩
        rw [hn]
        exact full_ups h (by omega) (fun c hc => h 0 c (by omega) hc) n c hc
  intro i c hi hc
  obtain ⟨t, ht, h1⟩ := near h hi (show 0 < m by omega)
  have h2 : ∀ c, c < m → P m E (t + s * (m - 1)) i c := fun c hc => p_add _ _ (by omega) h1 (hV c hc)
  have hle : s * (m - 1) ≤ m * (m - 1) := Nat.mul_le_mul_right _ hs2
  obtain ⟨q, rfl⟩ : ∃ q, m = q + 1 := ⟨m - 1, by omega⟩
  rw [Nat.add_sub_cancel] at *
  have e : (q + 1) * (q + 1) = (q + 1) * q + (q + 1) := Nat.mul_succ _ _
  obtain ⟨n, hn⟩ : ∃ n, (q + 1) * (q + 1) = t + s * q + n := ⟨(q + 1) * (q + 1) - (t + s * q), by omega⟩
  rw [hn]
  exact full_ups h hi h2 n c hc
end Paths
end Go.Proofs.Ytbefijbmgmbphaa

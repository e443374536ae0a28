/- Plain law: words that have patterns; squares; makers of squares. -/
import Derived.Test.YticejlplbibegaaGreatDoorM11
import Derived.Test.YticejlplbibegaaGreatDoorM4
namespace Go.Proofs.YticejlplbibegaaGreatDoor

/-- Does a word begin with what fits a pattern? -/
def begB (u p : List UInt8) : Bool := (sols u p V0 0).any fun _ => true
theorem begB_iff {u p : List UInt8} (hp : ∀ c ∈ p, vIdx c < 3) : begB u p = true ↔ ∃ V, Goes p V0 V ∧ subV p V <+: u := by
  unfold begB
  rw [List.any_eq_true]
  constructor
  · rintro ⟨⟨V, t⟩, hm, _⟩
    obtain ⟨h1, _, h3⟩ := (sols0 hp).1 hm
    exact ⟨V, h1, h3⟩
  · rintro ⟨V, h1, h2⟩
    exact ⟨(V, (subV p V).length), (sols0 hp).2 ⟨h1, rfl, h2⟩, rfl⟩
def hasTo (w p : List UInt8) (n : Nat) : Bool := (List.range n).any fun i => begB (w.drop i) p
def hasB (w p : List UInt8) : Bool := hasTo w p w.length
theorem hasTo_succ (w p : List UInt8) (n : Nat) : hasTo w p (n + 1) = (hasTo w p n || begB (w.drop n) p) := by simp [hasTo, List.range_succ]
theorem hasTo_yes {w p : List UInt8} {n m : Nat} (h : n < m) (hh : begB (w.drop n) p = true) : hasTo w p m = true := by
  unfold hasTo
  rw [List.any_eq_true]
  exact ⟨n, List.mem_range.2 h, hh⟩
theorem subV_pos {p : List UInt8} {V : Vals} (h : Goes p V0 V) (hp : p ≠ []) : 1 ≤ (subV p V).length := by
  cases p with
  | nil => exact absurd rfl hp
  | cons c p =>
    have := (h.new (vIdx c) (v0_get _)).2 ((occ_cons _ _ _).2 (.inl rfl))
    rw [subV_cons, List.length_append]
    cases hq : V.getD (vIdx c) [] with
    | nil => exact absurd hq this
    | cons x l => simp; omega
theorem hasB_iff {w p : List UInt8} (hp : ∀ c ∈ p, vIdx c < 3) (hp1 : p ≠ []) : hasB w p = true ↔ ∃ i V, Goes p V0 V ∧ subV p V <+: w.drop i := by
  unfold hasB hasTo
  rw [List.any_eq_true]
  constructor
  · rintro ⟨i, _, h⟩
    obtain ⟨V, h1, h2⟩ := (begB_iff hp).1 h
    exact ⟨i, V, h1, h2⟩
  · rintro ⟨i, V, h1, h2⟩
    have := subV_pos h1 hp1
    have hl := h2.length_le
    rw [List.length_drop] at hl
    exact ⟨i, List.mem_range.2 (by omega), (begB_iff hp).2 ⟨V, h1, h2⟩⟩
/-- The reference's test. -/
def hasST (w p : List UInt8) (n : Nat) : Bool := (List.range n).any fun m => endsP (w.take (p.length + m)) p
def hasS (w p : List UInt8) : Bool := hasST w p (w.length + 1 - p.length)
theorem hasST_succ (w p : List UInt8) (n : Nat) : hasST w p (n + 1) = (hasST w p n || endsP (w.take (p.length + n)) p) := by simp [hasST, List.range_succ]
theorem hasST_yes {w p : List UInt8} {n m : Nat} (h : n < m) (hh : endsP (w.take (p.length + n)) p = true) : hasST w p m = true := by
  unfold hasST
  rw [List.any_eq_true]
  exact ⟨n, List.mem_range.2 h, hh⟩
theorem has_same {w p : List UInt8} (hp : ∀ c ∈ p, vIdx c < 3) (hp1 : p ≠ []) : hasS w p = hasB w p := by
  rw [Bool.eq_iff_iff, hasB_iff hp hp1]
  unfold hasS hasST endsP
  rw [List.any_eq_true]
  constructor
  · rintro ⟨m, hm, h⟩
    obtain ⟨i, hi, h⟩ := List.any_eq_true.1 h
    obtain ⟨V, hf⟩ := (fitsB_iff hp).1 h
    refine ⟨i, V, hf.goes, ?_⟩
    rw [hf.word, List.drop_take]
    exact List.take_prefix _ _
  · rintro ⟨i, V, h1, h2⟩
    have hpos := subV_pos h1 hp1
    have hl := h2.length_le
    rw [List.length_drop] at hl
    have hfit : Fit p ((w.take (i + (subV p V).length)).drop i) V := by
      refine ⟨h1, ?_⟩
      rw [List.drop_take, show i + (subV p V).length - i = (subV p V).length by omega]
      exact (take_prefix h2).symm
    have hfb := (fitsB_iff hp).2 ⟨V, hfit⟩
    have hlen := fitB_len _ _ _ hfb
    rw [List.length_drop, List.length_take] at hlen
    refine ⟨i + (subV p V).length - p.length, List.mem_range.2 (by omega), ?_⟩
    rw [show p.length + (i + (subV p V).length - p.length) = i + (subV p V).length by omega, List.any_eq_true]
    exact ⟨i, List.mem_range.2 (by rw [List.length_take]; omega), hfb⟩
/-- The pattern of squares. -/
theorem has_sq (w : List UInt8) : hasB w [65, 65] = sqIn w := by
  have hq3 : ∀ c ∈ ([65, 65] : List UInt8), vIdx c < 3 := by decide
  rw [Bool.eq_iff_iff, hasB_iff hq3 (by simp)]
  have hsub : ∀ V : Vals, subV [65, 65] V = V.getD 0 [] ++ V.getD 0 [] := by
    intro V
    rw [subV_cons, subV_cons, subV_nil, List.append_nil]; rfl
  unfold sqIn
  rw [List.any_eq_true]
  constructor
  · rintro ⟨i, V, h1, h2⟩
    have hn := (h1.new 0 (v0_get _)).2 ((occ_cons _ _ _).2 (.inl rfl))
    rw [hsub] at h2
    generalize V.getD 0 [] = x at *
    have hx : 1 ≤ x.length := by
      cases x with
      | nil => exact absurd rfl hn
      | cons a l => simp
    have hl := h2.length_le
    rw [List.length_append, List.length_drop] at hl
    refine ⟨i, List.mem_range.2 (by omega), List.any_eq_true.2 ⟨x.length - 1, List.mem_range.2 (by omega), ?_⟩⟩
    rw [show x.length - 1 + 1 = x.length by omega]
    have e : seg w i (2 * x.length) = x ++ x := by
      unfold seg
      rw [List.drop_take, show i + 2 * x.length - i = (x ++ x).length by rw [List.length_append]; omega]
      exact take_prefix h2
    unfold hp
    rw [e, List.length_append, show x.length + x.length - x.length = x.length by omega, List.drop_left, List.take_left]
    exact beq_self_eq_true _
  · rintro ⟨i, hi, h⟩
    obtain ⟨m, hm, h⟩ := List.any_eq_true.1 h
    have h1 := List.mem_range.1 hi
    have h3 := List.mem_range.1 hm
    have hle : i + 2 * (m + 1) ≤ w.length := by omega
    unfold hp at h
    rw [beq_iff_eq, seg_len (by omega)] at h
    have hseg : seg w i (2 * (m + 1)) = (w.drop i).take (2 * (m + 1)) := by
      unfold seg
      rw [List.drop_take, show i + 2 * (m + 1) - i = 2 * (m + 1) by omega]
    have hsl := seg_len hle
    rw [show 2 * (m + 1) - (m + 1) = m + 1 by omega] at h
    obtain ⟨x, hx⟩ : ∃ x, x = (seg w i (2 * (m + 1))).take (m + 1) := ⟨_, rfl⟩
    have hxl : x.length = m + 1 := by rw [hx, List.length_take]; omega
    have hxx : x ++ x = seg w i (2 * (m + 1)) := by
      have := List.take_append_drop (m + 1) (seg w i (2 * (m + 1)))
      rw [h, ← hx] at this
      exact this
    refine ⟨i, [x, [], []], ⟨rfl, ?_, ?_⟩, ?_⟩
    · intro k hk; exact absurd (v0_get k) hk
    · intro k _
      rw [occ_cons, occ_cons]
      have e65 : vIdx 65 = 0 := rfl
      rw [e65]
      match k with
      | 0 =>
        constructor
        · intro _; exact .inl rfl
        · intro _ e
          have e : x = [] := e
          rw [e] at hxl; simp at hxl
      | 1 => exact ⟨fun h => absurd rfl h, fun h => by rcases h with h | h | h; cases h; cases h; exact absurd h (occ_nil _)⟩
      | 2 => exact ⟨fun h => absurd rfl h, fun h => by rcases h with h | h | h; cases h; cases h; exact absurd h (occ_nil _)⟩
      | k + 3 => exact ⟨fun h => absurd rfl h, fun h => by rcases h with h | h | h; cases h; cases h; exact absurd h (occ_nil _)⟩
    · rw [hsub]
      show x ++ x <+: _
      rw [hxx, hseg]
      exact List.take_prefix _ _
/-- What grows without squares at its ends has no square. -/
theorem grL_free (k : Nat) : ∀ (d : Nat) (w u : List UInt8), (∀ n, n ≤ w.length → endsSq (w.take n) = false) → u ∈ grL k d w → ∀ n, n ≤ u.length → endsSq (u.take n) = false
  | 0, w, u, hw, h => by
    unfold grL at h
    rw [List.mem_singleton.1 h]
    exact hw
  | d + 1, w, u, hw, h => by
    unfold grL at h
    obtain ⟨i, hi, h⟩ := List.mem_flatMap.1 h
    cases he : endsSq (w ++ [ltr i])
    · rw [he, if_neg (by decide)] at h
      refine grL_free k d _ u (fun n hn => ?_) h
      rw [List.length_append, List.length_singleton] at hn
      by_cases e : n = w.length + 1
      · rw [List.take_of_length_le (by rw [List.length_append, List.length_singleton]; omega)]; exact he
      · rw [List.take_append_of_le_length (by omega)]; exact hw n (by omega)
    · rw [he, if_pos rfl] at h; cases h
theorem grL_sq {k d : Nat} {u : List UInt8} (h : u ∈ grL k d []) : sqIn u = false := by
  rw [sqIn_ends, List.any_eq_false]
  intro n hn
  have := List.mem_range.1 hn
  rw [grL_free k d [] u (fun n hn => by simp at hn; subst hn; rfl) h n (by omega)]
  simp
theorem makeTo_is {ws : List (List UInt8)} {n : Nat} {u : List UInt8} (h : makeTo ws n = some u) : u.length < n ∧ sqIn u = false ∧ sqIn (imgOf ws u) = true ∧ ∀ c ∈ u, ∃ i, i < ws.length ∧ c = ltr i := by
  unfold makeTo at h
  obtain ⟨m, hm, h⟩ := List.exists_of_findSome?_eq_some h
  have hm := List.mem_range.1 hm
  unfold makerF at h
  have h1 := List.mem_of_find?_eq_some h
  have h2 := List.find?_some h
  obtain ⟨h3, h4⟩ := grL_word ws.length m [] u h1
  refine ⟨by rw [h3]; simpa using hm, grL_sq h1, h2, fun c hc => ?_⟩
  rcases h4 c hc with h5 | h5
  · cases h5
  · exact h5
end Go.Proofs.YticejlplbibegaaGreatDoor

/- Plain law: the words with a vector of letters. -/
import Derived.Test.YthpcojnpiggaiaaGreatCQ
namespace Go.Proofs.YthpcojnpiggaiaaGreat
set_option linter.unusedVariables false

/-- A vector with one letter less. -/
def dcr (ns : List Nat) (c : Nat) : List Nat := ns.set c (ns.getD c 0 - 1)
/-- The words of so many letters with a vector, in order. -/
def arrF : Nat → List Nat → List (List UInt8)
  | 0, _ => [[]]
  | k + 1, ns => (List.range 5).flatMap fun c => if ns.getD c 0 = 0 then [] else (arrF k (dcr ns c)).map (ltr c :: ·)
/-- Those that begin with one of the first letters. -/
def arrP (k : Nat) (ns : List Nat) (n : Nat) : List (List UInt8) := (List.range n).flatMap fun c => if ns.getD c 0 = 0 then [] else (arrF k (dcr ns c)).map (ltr c :: ·)
theorem arrP_succ (k : Nat) (ns : List Nat) (n : Nat) : arrP k ns (n + 1) = arrP k ns n ++ if ns.getD n 0 = 0 then [] else (arrF k (dcr ns n)).map (ltr n :: ·) := by
  simp [arrP, List.range_succ]
theorem arrF_succ (k : Nat) (ns : List Nat) : arrF (k + 1) ns = arrP k ns 5 := rfl
theorem dcr_len (ns : List Nat) (c : Nat) : (dcr ns c).length = ns.length := List.length_set
theorem dcr_at (ns : List Nat) {c : Nat} (hc : c < ns.length) (j : Nat) : (dcr ns c).getD j 0 = if j = c then ns.getD c 0 - 1 else ns.getD j 0 := by
  unfold dcr
  rw [List.getD_eq_getElem?_getD, List.getElem?_set]
  by_cases e : c = j
  · subst e
    rw [if_pos rfl, if_pos hc, if_pos rfl]; rfl
  · rw [if_neg e, if_neg (Ne.symm e), ← List.getD_eq_getElem?_getD]
theorem five {ns : List Nat} (h : ns.length = 5) : ∃ a b c d e, ns = [a, b, c, d, e] := by
  rcases ns with _ | ⟨a, _ | ⟨b, _ | ⟨c, _ | ⟨d, _ | ⟨e, _ | ⟨f, l⟩⟩⟩⟩⟩⟩ <;> first | exact ⟨_, _, _, _, _, rfl⟩ | (simp at h)
theorem dcr_sum {ns : List Nat} (h : ns.length = 5) {c : Nat} (hc : c < 5) (h0 : ns.getD c 0 ≠ 0) : (dcr ns c).sum + 1 = ns.sum := by
  obtain ⟨x0, x1, x2, x3, x4, rfl⟩ := five h
  rcases c with _ | _ | _ | _ | _ | c
  all_goals first | omega | skip
  all_goals simp [dcr] at h0 ⊢; omega
/-- The number of words, by the first letters. -/
def arrS (ns : List Nat) : Nat := ((List.range 5).map fun c => if ns.getD c 0 = 0 then 0 else (arrA (dcr ns c)).1).sum
theorem arr_chk : ∀ a, a < 9 → ∀ b, b < 9 - a → ∀ c, c < 9 - a - b → ∀ d, d < 9 - a - b - c → ∀ e, e < 9 - a - b - c - d → (a + b + c + d + e == 0 || arrS [a, b, c, d, e] == (arrA [a, b, c, d, e]).1) = true := by decide +kernel
theorem arrS_is {ns : List Nat} (h : ns.length = 5) (h8 : ns.sum ≤ 8) (h0 : ns.sum ≠ 0) : arrS ns = (arrA ns).1 := by
  obtain ⟨x0, x1, x2, x3, x4, rfl⟩ := five h
  simp only [List.sum_cons, List.sum_nil] at h8 h0
  have := arr_chk x0 (by omega) x1 (by omega) x2 (by omega) x3 (by omega) x4 (by omega)
  have hn : (x0 + x1 + x2 + x3 + x4 == 0) = false := beq_eq_false_iff_ne.2 (by omega)
  rw [hn, Bool.false_or] at this
  exact eq_of_beq this
theorem arrF_len : ∀ (k : Nat) (ns : List Nat), ns.length = 5 → ns.sum = k → k ≤ 8 → (arrF k ns).length = (arrA ns).1
  | 0, ns, h, hs, _ => by
    obtain ⟨x0, x1, x2, x3, x4, rfl⟩ := five h
    simp only [List.sum_cons, List.sum_nil] at hs
    obtain ⟨rfl, rfl, rfl, rfl, rfl⟩ : x0 = 0 ∧ x1 = 0 ∧ x2 = 0 ∧ x3 = 0 ∧ x4 = 0 := by omega
    rfl
  | k + 1, ns, h, hs, hk => by
    rw [← arrS_is h (by omega) (by omega)]
    unfold arrF arrS
    rw [List.length_flatMap]
    congr 1
    refine List.map_congr_left fun c hc => ?_
    have hc := List.mem_range.1 hc
    by_cases h0 : ns.getD c 0 = 0
    · rw [if_pos h0, if_pos h0]; rfl
    · rw [if_neg h0, if_neg h0, List.length_map]
      have := dcr_sum h hc h0
      exact arrF_len k _ ((dcr_len _ _).trans h) (by omega) (by omega)
theorem arrF_mem : ∀ (k : Nat) (ns : List Nat), ns.length = 5 → ns.sum = k → ∀ x ∈ arrF k ns, x.length = k ∧ x.all isL = true ∧ ∀ c, c < 5 → x.countP (fun u => u.toNat == 97 + c) = ns.getD c 0
  | 0, ns, h, hs, x, hx => by
    obtain ⟨x0, x1, x2, x3, x4, rfl⟩ := five h
    simp only [List.sum_cons, List.sum_nil] at hs
    obtain ⟨rfl, rfl, rfl, rfl, rfl⟩ : x0 = 0 ∧ x1 = 0 ∧ x2 = 0 ∧ x3 = 0 ∧ x4 = 0 := by omega
    rw [List.mem_singleton.1 hx]
    refine ⟨rfl, rfl, fun c hc => ?_⟩
    rcases c with _ | _ | _ | _ | _ | c <;> first | rfl | omega
  | k + 1, ns, h, hs, x, hx => by
    obtain ⟨c, hc, hx⟩ := List.mem_flatMap.1 hx
    have hc := List.mem_range.1 hc
    by_cases h0 : ns.getD c 0 = 0
    · rw [if_pos h0] at hx; cases hx
    · rw [if_neg h0] at hx
      obtain ⟨y, hy, rfl⟩ := List.mem_map.1 hx
      have hd := dcr_sum h hc h0
      obtain ⟨h1, h2, h3⟩ := arrF_mem k _ ((dcr_len ns c).trans h) (by omega) y hy
      refine ⟨by rw [List.length_cons, h1], by rw [List.all_cons, h2, isL_letter (by omega)]; rfl, fun j hj => ?_⟩
      rw [List.countP_cons, h3 j hj, dcr_at ns (by omega), ltr_num (by omega)]
      by_cases e : j = c
      · subst e
        rw [if_pos rfl, if_pos (beq_self_eq_true _)]; omega
      · rw [if_neg e, if_neg (by rw [beq_iff_eq]; omega), Nat.add_zero]
theorem flat_head {α : Type} (f : Nat → List α) {n c : Nat} {x : α} {l : List α} (hc : c < n) (h0 : ∀ i, i < c → f i = []) (h : f c = x :: l) : ∃ l', (List.range n).flatMap f = x :: l' := by
  have hz : ∀ c, (∀ i, i < c → f i = []) → (List.range c).flatMap f = [] := fun c h => by
    rw [List.flatMap_eq_nil_iff]
    intro i hi
    exact h i (List.mem_range.1 hi)
  have hr : ∀ n, c < n → ∃ l', (List.range n).flatMap f = x :: l' := fun n => by
    induction n with
    | zero => intro h; omega
    | succ n ih =>
      intro hcn
      rw [List.range_succ, List.flatMap_append]
      by_cases e : c = n
      · subst e
        rw [hz c h0]
        exact ⟨l, by simp [h]⟩
      · obtain ⟨l', hl⟩ := ih (by omega)
        rw [hl]
        exact ⟨_, rfl⟩
  exact hr n hc
theorem arrF_head : ∀ (k : Nat) (ns : List Nat), ns.length = 5 → ns.sum = k → ∃ x l, arrF k ns = x :: l ∧ x.Pairwise fun x y => x.toNat ≤ y.toNat
  | 0, ns, h, hs => ⟨[], [], rfl, List.Pairwise.nil⟩
  | k + 1, ns, h, hs => by
    obtain ⟨c, hc, h0, hb⟩ : ∃ c, c < 5 ∧ ns.getD c 0 ≠ 0 ∧ ∀ i, i < c → ns.getD i 0 = 0 := by
      obtain ⟨x0, x1, x2, x3, x4, rfl⟩ := five h
      simp only [List.sum_cons, List.sum_nil] at hs
      by_cases e0 : x0 = 0
      · by_cases e1 : x1 = 0
        · by_cases e2 : x2 = 0
          · by_cases e3 : x3 = 0
            · refine ⟨4, by omega, by show x4 ≠ 0; omega, fun i hi => ?_⟩
              rcases i with _ | _ | _ | _ | i <;> first | assumption | omega
            · refine ⟨3, by omega, e3, fun i hi => ?_⟩
              rcases i with _ | _ | _ | i <;> first | assumption | omega
          · refine ⟨2, by omega, e2, fun i hi => ?_⟩
            rcases i with _ | _ | i <;> first | assumption | omega
        · refine ⟨1, by omega, e1, fun i hi => ?_⟩
          rcases i with _ | i <;> first | assumption | omega
      · exact ⟨0, by omega, e0, fun i hi => by omega⟩
    have hd := dcr_sum h hc h0
    obtain ⟨y, l, hy, hp⟩ := arrF_head k (dcr ns c) ((dcr_len ns c).trans h) (by omega)
    obtain ⟨h1, h2, h3⟩ := arrF_mem k _ ((dcr_len ns c).trans h) (by omega) y (by rw [hy]; exact List.mem_cons_self)
    obtain ⟨l', hl⟩ := flat_head (fun c => if ns.getD c 0 = 0 then [] else (arrF k (dcr ns c)).map (ltr c :: ·)) (n := 5) (c := c) (x := ltr c :: y) (l := l.map (ltr c :: ·)) hc (fun i hi => by rw [if_pos (hb i hi)]) (by rw [if_neg h0, hy]; rfl)
    refine ⟨_, l', hl, List.pairwise_cons.2 ⟨fun u hu => ?_, hp⟩⟩
    rw [ltr_num (by omega)]
    have hul := List.all_eq_true.1 h2 u hu
    unfold isL at hul
    simp only [Bool.and_eq_true, decide_eq_true_eq] at hul
    refine Nat.not_lt.1 fun hlt => ?_
    have h4 := h3 (u.toNat - 97) (by omega)
    rw [dcr_at ns (by omega), if_neg (by omega), hb _ (by omega), List.countP_eq_zero] at h4
    exact h4 u hu (by rw [beq_iff_eq]; omega)
end Go.Proofs.YthpcojnpiggaiaaGreat

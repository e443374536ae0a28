/- Merged: M24 M25 M26. -/
import Derived.Test.YticejlplbibegaaGreatDoorM10
import Derived.Test.YticejlplbibegaaGreatDoorCD
import Derived.Test.YticejlplbibegaaGreatDoorCE
/-! Plain laws of stepped words and of words of slopes: balance, order among turned words, palindromes, paths. -/
namespace Go.Proofs.YticejlplbibegaaGreatDoor
open Go

/-- How many steps are made before a letter. -/
def fS (a b c i : Nat) : Nat := (i * a + c) / b
def lS (a b c i : Nat) : UInt8 := if fS a b c (i + 1) = fS a b c i then 97 else 98
theorem stepL_succ (a b c n : Nat) : stepL a b c (n + 1) = stepL a b c n ++ [lS a b c n] := rfl
theorem stepL_map (a b c : Nat) : ∀ n, stepL a b c n = (List.range n).map (lS a b c)
  | 0 => rfl
  | n + 1 => by rw [stepL_succ, stepL_map a b c n, List.range_succ, List.map_append]; rfl
theorem stepL_get {a b c n i : Nat} (h : i < n) : (stepL a b c n)[i]? = some (lS a b c i) := by
  rw [stepL_map, List.getElem?_map, List.getElem?_range h]; rfl
theorem stepL_take {a b c n k : Nat} (h : k ≤ n) : (stepL a b c n).take k = stepL a b c k := by
  rw [stepL_map, stepL_map, ← List.map_take, List.take_range, Nat.min_eq_left h]
theorem div_two (x y b : Nat) (hb : 1 ≤ b) : x / b + y / b ≤ (x + y) / b ∧ (x + y) / b ≤ x / b + y / b + 1 := by
  refine ⟨?_, ?_⟩
  · rw [Nat.le_div_iff_mul_le hb, Nat.add_mul]
    have h1 := Nat.div_mul_le_self x b
    have h2 := Nat.div_mul_le_self y b
    omega
  have h1 := Nat.div_add_mod x b
  have h2 := Nat.div_add_mod y b
  have h3 := Nat.mod_lt x hb
  have h4 := Nat.mod_lt y hb
  have h5 := Nat.div_mul_le_self (x + y) b
  refine Nat.le_of_not_lt fun h => ?_
  have h6 := Nat.mul_le_mul_right b (show x / b + y / b + 2 ≤ (x + y) / b by omega)
  rw [Nat.add_mul, Nat.add_mul, Nat.mul_comm (x / b), Nat.mul_comm (y / b)] at h6
  omega
theorem fS_add {a b : Nat} (hb : 1 ≤ b) (c t m : Nat) : fS a b c t + m * a / b ≤ fS a b c (t + m) ∧ fS a b c (t + m) ≤ fS a b c t + m * a / b + 1 := by
  have := div_two (t * a + c) (m * a) b hb
  unfold fS
  rw [show (t + m) * a + c = t * a + c + m * a by rw [Nat.add_mul]; omega]
  exact this
theorem fS_step {a b : Nat} (hb : 1 ≤ b) (ha : a ≤ b) (c i : Nat) : fS a b c i ≤ fS a b c (i + 1) ∧ fS a b c (i + 1) ≤ fS a b c i + 1 := by
  unfold fS
  rw [show (i + 1) * a + c = i * a + c + a by rw [Nat.add_mul]; omega]
  refine ⟨Nat.div_le_div_right (by omega), ?_⟩
  have : (i * a + c + a) / b ≤ (i * a + c + b) / b := Nat.div_le_div_right (by omega)
  rw [Nat.add_div_right _ hb] at this
  omega
theorem lS_ab (a b c i : Nat) : lS a b c i = 97 ∨ lS a b c i = 98 := by
  unfold lS; split
  · exact .inl rfl
  · exact .inr rfl
theorem stepL_ab (a b c n : Nat) : AB (stepL a b c n) := by
  intro u hu
  rw [stepL_map] at hu
  obtain ⟨i, _, rfl⟩ := List.mem_map.1 hu
  exact lS_ab a b c i
theorem cnt_app (x y : List UInt8) (k : Nat) : cnt (x ++ y) k = cnt x k + cnt y k := by
  unfold cnt; rw [List.countP_append]; exact Int.natCast_add _ _
theorem cnt_step {a b : Nat} (hb : 1 ≤ b) (ha : a ≤ b) (c : Nat) : ∀ n, cnt (stepL a b c n) 1 + (fS a b c 0 : Int) = (fS a b c n : Int)
  | 0 => by show (0 : Int) + _ = _; omega
  | n + 1 => by
    have ih := cnt_step hb ha c n
    have hs := fS_step hb ha c n
    rw [stepL_succ, cnt_app]
    have e : cnt [lS a b c n] 1 = if fS a b c (n + 1) = fS a b c n then 0 else 1 := by
      unfold lS
      split <;> rfl
    rw [e]
    split <;> omega
theorem cnt_seg {a b : Nat} (hb : 1 ≤ b) (ha : a ≤ b) (c : Nat) {n t m : Nat} (h : t + m ≤ n) : cnt (seg (stepL a b c n) t m) 1 + (fS a b c t : Int) = (fS a b c (t + m) : Int) := by
  have e : stepL a b c (t + m) = stepL a b c t ++ seg (stepL a b c n) t m := by
    unfold seg
    rw [stepL_take h, ← stepL_take (a := a) (b := b) (c := c) (show t ≤ t + m by omega), List.take_append_drop]
  have h1 := cnt_step hb ha c (t + m)
  have h2 := cnt_step hb ha c t
  rw [e, cnt_app] at h1
  omega
theorem step_bal {a b : Nat} (hb : 1 ≤ b) (ha : a ≤ b) (c n : Nat) : balM (stepL a b c n) (stepL a b c n).length ≤ 1 := by
  have h : decide (balM (stepL a b c n) (stepL a b c n).length ≤ 1) = true := by
    rw [bal_is (stepL_ab a b c n), balB2_iff]
    intro m h1 h2 u hu v hv
    rw [stepL_len] at hu hv h2
    obtain ⟨t, ht, rfl⟩ := List.mem_map.1 hu
    obtain ⟨s, hs, rfl⟩ := List.mem_map.1 hv
    rw [List.mem_range] at ht hs
    have c1 := cnt_seg hb ha c (n := n) (t := t) (m := m) (by omega)
    have c2 := cnt_seg hb ha c (n := n) (t := s) (m := m) (by omega)
    have f1 := fS_add (a := a) hb c t m
    have f2 := fS_add (a := a) hb c s m
    omega
  exact of_decide_eq_true h

/-- Bezout. -/
theorem bezout : ∀ (m n : Nat), ∃ x y : Int, (m : Int) * x + (n : Int) * y = (Nat.gcd m n : Nat)
  | 0, n => ⟨0, 1, by simp⟩
  | m + 1, n => by
    have : n % (m + 1) < m + 1 := Nat.mod_lt _ (by omega)
    obtain ⟨x, y, h⟩ := bezout (n % (m + 1)) (m + 1)
    have e := Nat.div_add_mod n (m + 1)
    rw [Nat.gcd_rec]
    refine ⟨y - ((n / (m + 1) : Nat) : Int) * x, x, ?_⟩
    rw [← h]
    have e2 : (n : Int) = ((m + 1 : Nat) : Int) * ((n / (m + 1) : Nat) : Int) + ((n % (m + 1) : Nat) : Int) := by exact_mod_cast e.symm
    generalize ((n / (m + 1) : Nat) : Int) = d at *
    generalize ((n % (m + 1) : Nat) : Int) = r at *
    generalize ((m + 1 : Nat) : Int) = M at *
    rw [e2]
    grind
termination_by m => m
/-- Some multiple of a number without a common divisor is what is lacking to a multiple. -/
theorem reach {q n c : Nat} (hn : 1 ≤ n) (hg : Nat.gcd q n = 1) : ∃ i T : Nat, i < n ∧ i * q + c = n * T := by
  obtain ⟨x, y, h⟩ := bezout q n
  rw [hg] at h
  have hn' : (n : Int) ≠ 0 := by omega
  have h1 := Int.emod_nonneg (-(c : Int) * x) hn'
  have h2 := Int.emod_lt_of_pos (-(c : Int) * x) (show (0 : Int) < n by omega)
  have h3 := Int.mul_ediv_add_emod (-(c : Int) * x) n
  obtain ⟨i, hi⟩ : ∃ i : Nat, (-(c : Int) * x) % n = i := ⟨((-(c : Int) * x) % n).toNat, by omega⟩
  rw [hi] at h1 h2 h3
  generalize (-(c : Int) * x) / (n : Int) = z at h3
  have h4 : (i : Int) * q + c = n * ((c : Int) * y - z * q) := by
    have hii : (i : Int) = -(c : Int) * x - n * z := by omega
    rw [hii]
    have h' : (q : Int) * x + n * y = 1 := by exact_mod_cast h
    grind
  have h5 : 0 ≤ (c : Int) * y - z * q := by
    have h6 : (0 : Int) ≤ (i : Int) * q + c := by
      have : ((i * q + c : Nat) : Int) = (i : Int) * q + c := by push_cast; rfl
      rw [← this]; exact Int.natCast_nonneg _
    rw [h4] at h6
    exact Int.nonneg_of_mul_nonneg_right h6 (by omega)
  obtain ⟨T, hT⟩ : ∃ T : Nat, (c : Int) * y - z * q = T := ⟨((c : Int) * y - z * q).toNat, by omega⟩
  rw [hT] at h4
  exact ⟨i, T, by omega, by exact_mod_cast h4⟩
theorem bl_pre : ∀ (p x y : List UInt8), Op.bytesLess (p ++ 98 :: x) (p ++ 97 :: y) = false
  | [], x, y => rfl
  | a :: p, x, y => by
    have e : Op.bytesLess (a :: (p ++ 98 :: x)) (a :: (p ++ 97 :: y)) = (decide (a < a) || (a == a && Op.bytesLess (p ++ 98 :: x) (p ++ 97 :: y))) := rfl
    rw [List.cons_append, List.cons_append, e, bl_pre p x y]
    simp
theorem fS_zero {a b c : Nat} (hc : c < b) : fS a b c 0 = 0 := by
  unfold fS; rw [Nat.zero_mul, Nat.zero_add]; exact Nat.div_eq_of_lt hc
/-- Of two stepped words the one that steps first is greater. -/
theorem step_less {a b c n : Nat} (hb : 1 ≤ b) (ha : a ≤ b) (hc : c < b) (hx : ∃ i, i ≤ n ∧ fS a b 0 i ≠ fS a b c i) : (Op.bytesLess (stepL a b c n) (stepL a b 0 n) || stepL a b c n == stepL a b 0 n) = false := by
  have hmono : ∀ i, fS a b 0 i ≤ fS a b c i := fun i => Nat.div_le_div_right (by omega)
  have first : ∀ k, (∃ i, i ≤ k ∧ fS a b 0 i ≠ fS a b c i) → ∃ i, i < k ∧ (∀ j, j ≤ i → fS a b 0 j = fS a b c j) ∧ fS a b 0 (i + 1) ≠ fS a b c (i + 1) := by
    intro k
    induction k with
    | zero =>
      rintro ⟨i, hi, hne⟩
      have : i = 0 := by omega
      subst this
      rw [fS_zero (by omega), fS_zero hc] at hne
      exact absurd rfl hne
    | succ k ih =>
      rintro ⟨i, hi, hne⟩
      by_cases hk : ∃ i, i ≤ k ∧ fS a b 0 i ≠ fS a b c i
      · obtain ⟨j, h1, h2⟩ := ih hk
        exact ⟨j, by omega, h2⟩
      · refine ⟨k, by omega, fun j hj => ?_, ?_⟩
        · rcases Nat.decEq (fS a b 0 j) (fS a b c j) with h | h
          · exact absurd ⟨j, hj, h⟩ hk
          · exact h
        · by_cases hik : i ≤ k
          · exact absurd ⟨i, hik, hne⟩ hk
          · rw [show k + 1 = i by omega]; exact hne
  obtain ⟨i, hi, hall, hne⟩ := first n hx
  have s0 := fS_step hb ha 0 i
  have sc := fS_step hb ha c i
  have hm := hmono (i + 1)
  have hi' := hall i (Nat.le_refl i)
  have l0 : lS a b 0 i = 97 := by unfold lS; rw [if_pos (by omega)]
  have lc : lS a b c i = 98 := by unfold lS; rw [if_neg (by omega)]
  have pre : stepL a b c i = stepL a b 0 i := by
    rw [stepL_map, stepL_map]
    refine List.map_congr_left fun j hj => ?_
    rw [List.mem_range] at hj
    unfold lS
    rw [hall j (by omega), hall (j + 1) (by omega)]
  have cut : ∀ c', stepL a b c' n = stepL a b c' i ++ lS a b c' i :: (stepL a b c' n).drop (i + 1) := fun c' => by
    have h1 : (stepL a b c' n).take (i + 1) = stepL a b c' i ++ [lS a b c' i] := by rw [stepL_take (by omega), stepL_succ]
    conv => lhs; rw [← List.take_append_drop (i + 1) (stepL a b c' n), h1]
    rw [List.append_assoc]; rfl
  rw [cut c, cut 0, l0, lc, pre, bl_pre, Bool.false_or, beq_eq_false_iff_ne]
  intro h
  have := List.append_cancel_left h
  injection this with h1 _
  cases h1
theorem fS_turn {q n : Nat} (hn : 1 ≤ n) (k j : Nat) : fS q n 0 (k + j) = fS q n ((k * q) % n) j + (k * q) / n := by
  unfold fS
  have e := Nat.div_add_mod (k * q) n
  rw [show (k + j) * q + 0 = (j * q + (k * q) % n) + n * ((k * q) / n) by rw [Nat.add_mul]; omega, Nat.add_mul_div_left _ _ hn]
theorem turn_step {q n k : Nat} (hn : 1 ≤ n) (hk : k ≤ n) : (stepL q n 0 n).drop k ++ (stepL q n 0 n).take k = stepL q n ((k * q) % n) n := by
  have hl : ∀ c j, fS q n c (j + n) = fS q n c j + q := fun c j => by
    unfold fS
    rw [show (j + n) * q + c = j * q + c + n * q by rw [Nat.add_mul]; omega, Nat.add_mul_div_left _ _ hn]
  refine List.ext_getElem? fun i => ?_
  by_cases hi : i < n
  · rw [stepL_get hi]
    by_cases h1 : i < n - k
    · rw [List.getElem?_append_left (by rw [List.length_drop, stepL_len]; exact h1), List.getElem?_drop, stepL_get (by omega)]
      unfold lS
      have e1 := fS_turn (q := q) hn k i
      have e2 := fS_turn (q := q) hn k (i + 1)
      rw [← Nat.add_assoc] at e2
      rw [e1, e2]
      by_cases h : fS q n ((k * q) % n) (i + 1) = fS q n ((k * q) % n) i
      · rw [if_pos (by omega), if_pos h]
      · rw [if_neg (by omega), if_neg h]
    · rw [List.getElem?_append_right (by rw [List.length_drop, stepL_len]; omega), List.length_drop, stepL_len, List.getElem?_take, if_pos (by omega), stepL_get (by omega)]
      unfold lS
      have e1 := fS_turn (q := q) hn k i
      have e2 := fS_turn (q := q) hn k (i + 1)
      have g1 := hl 0 (i - (n - k))
      have g2 := hl 0 (i - (n - k) + 1)
      rw [show i - (n - k) + n = k + i by omega] at g1
      rw [show i - (n - k) + 1 + n = k + (i + 1) by omega] at g2
      by_cases h : fS q n ((k * q) % n) (i + 1) = fS q n ((k * q) % n) i
      · rw [if_pos (by omega), if_pos h]
      · rw [if_neg (by omega), if_neg h]
  · rw [List.getElem?_eq_none (by rw [List.length_append, List.length_drop, List.length_take, stepL_len]; omega), List.getElem?_eq_none (by rw [stepL_len]; omega)]
/-- A word of a slope is less than its turned words. -/
theorem slope_lyndon {p q : Nat} (hg : Nat.gcd p q = 1) {k : Nat} (h1 : 1 ≤ k) (h2 : k < p + q) : (Op.bytesLess ((slopeL p q).drop k ++ (slopeL p q).take k) (slopeL p q) || (slopeL p q).drop k ++ (slopeL p q).take k == slopeL p q) = false := by
  have hn : 1 ≤ p + q := by omega
  have hqn : Nat.gcd q (p + q) = 1 := by rw [Nat.gcd_add_self_right, Nat.gcd_comm]; exact hg
  unfold slopeL
  rw [turn_step hn (by omega)]
  have hc := Nat.mod_lt (k * q) hn
  have hc1 : 1 ≤ (k * q) % (p + q) := by
    rcases Nat.eq_zero_or_pos ((k * q) % (p + q)) with h | h
    · exfalso
      have hd : p + q ∣ k * q := Nat.dvd_of_mod_eq_zero h
      have hd2 : p + q ∣ k := Nat.Coprime.dvd_of_dvd_mul_right (by rw [Nat.Coprime, Nat.gcd_comm]; exact hqn) hd
      have := Nat.le_of_dvd (by omega) hd2
      omega
    · exact h
  generalize (k * q) % (p + q) = c at *
  refine step_less hn (by omega) hc ?_
  obtain ⟨i, T, hi, hT⟩ := reach (c := c) hn hqn
  refine ⟨i, by omega, ?_⟩
  have e1 : fS q (p + q) c i = T := by
    unfold fS; rw [hT]; exact Nat.mul_div_cancel_left T hn
  have e2 : fS q (p + q) 0 i < T := by
    unfold fS
    rw [Nat.div_lt_iff_lt_mul hn, Nat.mul_comm T]
    omega
  omega
/-- A central word is a palindrome. -/
theorem central_pal {p q : Nat} (hg : Nat.gcd p q = 1) (hp : 1 ≤ p) (hq : 1 ≤ q) : palB ((slopeL p q).take (p + q - 1)).tail = true := by
  have hn : 1 ≤ p + q := by omega
  have hqn : Nat.gcd q (p + q) = 1 := by rw [Nat.gcd_add_self_right, Nat.gcd_comm]; exact hg
  have hsum : ∀ i, 1 ≤ i → i < p + q → fS q (p + q) 0 i + fS q (p + q) 0 (p + q - i) + 1 = q := by
    intro i h1 h2
    have hr : 1 ≤ (i * q) % (p + q) := by
      rcases Nat.eq_zero_or_pos ((i * q) % (p + q)) with h | h
      · exfalso
        have hd : p + q ∣ i * q := Nat.dvd_of_mod_eq_zero h
        have hd2 : p + q ∣ i := Nat.Coprime.dvd_of_dvd_mul_right (by rw [Nat.Coprime, Nat.gcd_comm]; exact hqn) hd
        have := Nat.le_of_dvd (by omega) hd2
        omega
      · exact h
    have hm := Nat.mod_lt (i * q) hn
    have hd := Nat.div_add_mod (i * q) (p + q)
    have hlt : (i * q) / (p + q) < q := by rw [Nat.div_lt_iff_lt_mul hn, Nat.mul_comm q]; exact Nat.mul_lt_mul_of_pos_right h2 (by omega)
    unfold fS
    simp only [Nat.add_zero]
    obtain ⟨n, hnn⟩ : ∃ n, p + q = n := ⟨_, rfl⟩
    rw [hnn] at hr hm hd hlt h2 hn ⊢
    obtain ⟨D, hD⟩ : ∃ D, (i * q) / n = D := ⟨_, rfl⟩
    obtain ⟨r, hrr⟩ : ∃ r, (i * q) % n = r := ⟨_, rfl⟩
    rw [hD] at hd hlt ⊢
    rw [hrr] at hr hm hd
    obtain ⟨d, hd2⟩ : ∃ d, q = D + 1 + d := ⟨q - 1 - D, by omega⟩
    have h5 : n * q = n * D + n + n * d := by
      have := congrArg (n * ·) hd2
      simp only [Nat.mul_add, Nat.mul_one] at this
      exact this
    have h3 : (n - i) * q = n * d + (n - r) := by
      rw [Nat.sub_mul]; omega
    rw [h3, Nat.mul_add_div hn, Nat.div_eq_of_lt (by omega)]
    omega
  have hlet : ∀ i, 1 ≤ i → i + 1 < p + q → lS q (p + q) 0 (p + q - 1 - i) = lS q (p + q) 0 i := by
    intro i h1 h2
    have e1 := hsum i h1 (by omega)
    have e2 := hsum (i + 1) (by omega) h2
    unfold lS
    rw [show p + q - 1 - i + 1 = p + q - i by omega]
    rw [show p + q - (i + 1) = p + q - 1 - i by omega] at e2
    by_cases h : fS q (p + q) 0 (i + 1) = fS q (p + q) 0 i
    · rw [if_pos h, if_pos (by omega)]
    · rw [if_neg h, if_neg (by omega)]
  have hget : ∀ i, ((slopeL p q).take (p + q - 1)).tail[i]? = if i + 2 < p + q then some (lS q (p + q) 0 (i + 1)) else none := by
    intro i
    unfold slopeL
    rw [List.getElem?_tail, stepL_take (by omega)]
    split
    · rw [stepL_get (by omega)]
    · rw [List.getElem?_eq_none (by rw [stepL_len]; omega)]
  have hln : ((slopeL p q).take (p + q - 1)).tail.length = p + q - 2 := by
    rw [List.length_tail, List.length_take]
    unfold slopeL
    rw [stepL_len]
    omega
  unfold palB
  rw [beq_iff_eq]
  refine List.ext_getElem? fun i => ?_
  by_cases hi : i < p + q - 2
  · rw [List.getElem?_reverse (by rw [hln]; exact hi), hln, hget, hget, if_pos (by omega), if_pos (by omega)]
    have := hlet (i + 1) (by omega) (by omega)
    rw [show p + q - 1 - (i + 1) = p + q - 2 - 1 - i + 1 by omega] at this
    rw [this]
  · rw [List.getElem?_eq_none (by rw [hln]; omega), List.getElem?_eq_none (by rw [List.length_reverse, hln]; omega)]
theorem central_len {p q : Nat} (hp : 1 ≤ p) (hq : 1 ≤ q) : ((slopeL p q).take (p + q - 1)).tail.length = p + q - 2 := by
  rw [List.length_tail, List.length_take]
  unfold slopeL
  rw [stepL_len]
  omega
/-- Two numbers from a path. -/
def backN : List UInt8 → Nat × Nat
  | [] => (1, 1)
  | u :: l => if u = 97 then ((backN l).1, (backN l).1 + (backN l).2) else ((backN l).1 + (backN l).2, (backN l).2)
theorem back_pth : ∀ f p q : Nat, p + q ≤ f → 1 ≤ p → 1 ≤ q → Nat.gcd p q = 1 → backN (pthF f p q) = (p, q)
  | 0, p, q, h, hp, hq, _ => by omega
  | f + 1, p, q, h, hp, hq, hg => by
    unfold pthF
    by_cases h1 : p = q
    · rw [if_pos h1]
      subst h1
      rw [Nat.gcd_self] at hg
      subst hg; rfl
    · rw [if_neg h1]
      by_cases h2 : q < p
      · rw [if_pos h2]
        have hg2 : Nat.gcd (p - q) q = 1 := by rw [Nat.gcd_sub_self_left (by omega)]; exact hg
        have ih := back_pth f (p - q) q (by omega) (by omega) hq hg2
        rw [backN, if_neg (by decide), ih]
        show ((p - q) + q, q) = (p, q)
        rw [Nat.sub_add_cancel (by omega)]
      · rw [if_neg h2]
        have hg2 : Nat.gcd p (q - p) = 1 := by rw [Nat.gcd_sub_self_right (by omega)]; exact hg
        have ih := back_pth f p (q - p) (by omega) hp (by omega) hg2
        rw [backN, if_pos rfl, ih]
        show (p, p + (q - p)) = (p, q)
        rw [Nat.add_sub_cancel' (by omega)]
theorem pth_ab : ∀ f p q : Nat, ∀ u ∈ pthF f p q, u = 97 ∨ u = 98
  | 0, p, q, u, h => by cases h
  | f + 1, p, q, u, h => by
    unfold pthF at h
    split at h
    · cases h
    · split at h
      · rcases List.mem_cons.1 h with rfl | h
        · exact .inr rfl
        · exact pth_ab f _ _ u h
      · rcases List.mem_cons.1 h with rfl | h
        · exact .inl rfl
        · exact pth_ab f _ _ u h
theorem ab_isAB {w : List UInt8} (h : AB w) (hl : w.length ≤ 60) : isAB w = true := by
  unfold isAB isWord fewB
  rw [decide_eq_true hl, Bool.true_and, Bool.and_eq_true, List.all_eq_true, List.all_eq_true]
  constructor
  · intro u hu
    rcases h u hu with rfl | rfl <;> rfl
  · intro u hu
    rcases h u hu with rfl | rfl <;> rfl
theorem cnt_nB (l : List UInt8) : cnt l 1 = (nmB l : Nat) := rfl
theorem cnt_nA (l : List UInt8) : cnt l 0 = (nmA l : Nat) := rfl
/-- A word of two numbers has just so many letters. -/
theorem slope_nums {p q : Nat} (hn : 1 ≤ p + q) : nmA (slopeL p q) = p ∧ nmB (slopeL p q) = q := by
  have h1 := cnt_step (a := q) (b := p + q) hn (by omega) 0 (p + q)
  have h2 := (cnt_ab (stepL_ab q (p + q) 0 (p + q))).1
  rw [stepL_len] at h2
  have e1 : fS q (p + q) 0 0 = 0 := fS_zero (by omega)
  have e2 : fS q (p + q) 0 (p + q) = q := by
    unfold fS; rw [Nat.add_zero]; exact Nat.mul_div_cancel_left q hn
  rw [e1, e2] at h1
  rw [cnt_nB] at h1 h2
  rw [cnt_nA] at h2
  unfold slopeL
  omega
theorem slope_back {p q : Nat} (hg : Nat.gcd p q = 1) (hl : p + q ≤ 60) : isAB (slopeL p q) = true ∧ isSlope (slopeL p q) = true ∧ nmA (slopeL p q) = p ∧ nmB (slopeL p q) = q := by
  obtain ⟨h1, h2⟩ := slope_nums (pos_of_gcd hg)
  refine ⟨ab_isAB (stepL_ab _ _ _ _) (by unfold slopeL; rw [stepL_len]; exact hl), ?_, h1, h2⟩
  unfold isSlope
  rw [h1, h2, decide_eq_true hg, beq_self_eq_true]; rfl
theorem isAB_ab {w : List UInt8} (h : isAB w = true) : AB w := by
  intro u hu
  unfold isAB isWord fewB at h
  simp only [Bool.and_eq_true, List.all_eq_true, decide_eq_true_eq] at h
  have h1 := isL_range (h.1.2 u hu)
  have h2 := h.2 u hu
  have : u.toNat = 97 ∨ u.toNat = 98 := by omega
  rcases this with h | h
  · exact .inl (UInt8.toNat_inj.1 h)
  · exact .inr (UInt8.toNat_inj.1 h)
theorem ab_sum {w : List UInt8} (h : AB w) : nmA w + nmB w = w.length := by
  have h2 := (cnt_ab h).1
  rw [cnt_nA, cnt_nB] at h2
  omega
theorem sC_ok {w : List UInt8} (h : sC w = 0) : isAB w = true ∧ isSlope w = true := by
  unfold sC at h
  split at h
  · rename_i h1
    split at h
    · rename_i h2; exact ⟨h1, h2⟩
    · cases h
  · cases h
/-- The numbers of a word lead back to it. -/
theorem word_back {w : List UInt8} (h : sC w = 0) : wosC (sP w) (sQ w) = 0 ∧ wosW (sP w) (sQ w) = w := by
  obtain ⟨h1, h2⟩ := sC_ok h
  have hl := isAB_len h1
  have hs := ab_sum (isAB_ab h1)
  have e1 : sP w = nmA w := by unfold sP; rw [if_pos h1, if_pos h2]
  have e2 : sQ w = nmB w := by unfold sQ; rw [if_pos h1, if_pos h2]
  unfold isSlope at h2
  rw [Bool.and_eq_true, decide_eq_true_eq, beq_iff_eq] at h2
  have hok := slopeOk_n w hl
  rw [decide_eq_true h2.1] at hok
  have hc : wosC (nmA w : Nat) (nmB w : Nat) = 0 := by
    unfold wosC
    rw [if_pos hok, if_neg (by omega)]
  rw [e1, e2]
  refine ⟨hc, ?_⟩
  unfold wosW
  rw [if_pos hc, Int.toNat_natCast, Int.toNat_natCast]
  exact h2.2
theorem kC_ok {w : List UInt8} (h : kC w = 0) : kA w ++ kB w = w ∧ sC (kA w) = 0 ∧ sC (kB w) = 0 := by
  unfold kC at h
  split at h
  · rename_i h1
    cases hi : cutI w with
    | none => rw [hi] at h; cases h
    | some i =>
      have e1 : kA w = w.take i := by unfold kA; rw [if_pos h1, hi]
      have e2 : kB w = w.drop i := by unfold kB; rw [if_pos h1, hi]
      unfold cutI at hi
      split at hi
      · have hp := List.find?_some hi
        unfold cutB at hp
        simp only [Bool.and_eq_true] at hp
        rw [e1, e2]
        refine ⟨List.take_append_drop i w, ?_, ?_⟩
        · unfold sC; rw [if_pos (isAB_sub h1 (List.take_sublist i w)), if_pos hp.2.1]
        · unfold sC; rw [if_pos (isAB_sub h1 (List.drop_sublist i w)), if_pos hp.2.2]
      · cases hi
  · cases h
theorem kA_len (w : List UInt8) : (kA w).length ≤ 60 ∧ (kB w).length ≤ 60 := by
  unfold kA kB
  by_cases h1 : isAB w = true
  · have := isAB_len h1
    rw [if_pos h1, if_pos h1]
    constructor
    · split
      · rw [List.length_take]; omega
      · exact Nat.zero_le _
    · split
      · rw [List.length_drop]; omega
      · exact Nat.zero_le _
  · rw [if_neg h1, if_neg h1]; exact ⟨Nat.zero_le _, Nat.zero_le _⟩
end Go.Proofs.YticejlplbibegaaGreatDoor
/-! Plain law: lists of standard words: the shortest list, and the first of the shortest ones. -/
namespace Go.Proofs.YticejlplbibegaaGreatDoor
open Go

def nxt (own last : List UInt8) (d : Nat) : List UInt8 := repF own d ++ last
theorem nxt_len (own last : List UInt8) (d : Nat) : (nxt own last d).length = d * own.length + last.length := by unfold nxt; rw [List.length_append, repF_len9]
theorem nxt_succ (own last : List UInt8) (d : Nat) : nxt own last (d + 1) = own ++ nxt own last d := by
  unfold nxt repF
  rw [List.replicate_succ, List.flatten_cons, List.append_assoc]
/-- All lists that a loop over the next number comes to, in order. -/
def lpE (w last own : List UInt8) (G : List UInt8 → List (List Nat)) : Nat → Nat → List (List Nat)
  | 0, _ => []
  | f + 1, d => if (nxt own last d).length ≤ w.length then (G (nxt own last d)).map (d :: ·) ++ lpE w last own G f (d + 1) else []
def oneE (w own : List UInt8) : List (List Nat) := if own = w then [[]] else []
/-- All lists of at most so many more numbers whose standard word a word is, in order. -/
def allE (w : List UInt8) : Nat → Nat → List UInt8 → List UInt8 → List (List Nat)
  | 0, _, _, own => oneE w own
  | n + 1, least, last, own => oneE w own ++ lpE w last own (fun x => allE w n 1 own x) 61 least
/-- What the lists are. -/
def Std (w : List UInt8) : Nat → List UInt8 → List UInt8 → List Nat → Prop
  | _, _, own, [] => own = w
  | least, last, own, d :: ds => least ≤ d ∧ (nxt own last d).length ≤ w.length ∧ Std w 1 own (nxt own last d) ds
theorem mem_lpE {w last own : List UInt8} {G : List UInt8 → List (List Nat)} (h1 : 1 ≤ own.length) (hw : w.length ≤ 60) {x : List Nat} : ∀ (f d : Nat), 61 ≤ d + f → (x ∈ lpE w last own G f d ↔ ∃ e ds, x = e :: ds ∧ d ≤ e ∧ (nxt own last e).length ≤ w.length ∧ ds ∈ G (nxt own last e))
  | 0, d, hf => by
    refine ⟨fun h => (by cases h), fun ⟨e, ds, _, he, hn, _⟩ => ?_⟩
    rw [nxt_len] at hn
    have : e * 1 ≤ e * own.length := Nat.mul_le_mul_left e h1
    omega
  | f + 1, d, hf => by
    unfold lpE
    by_cases hd : (nxt own last d).length ≤ w.length
    · rw [if_pos hd, List.mem_append, mem_lpE h1 hw f (d + 1) (by omega), List.mem_map]
      constructor
      · rintro (⟨ds, h2, rfl⟩ | ⟨e, ds, rfl, h2, h3, h4⟩)
        · exact ⟨d, ds, rfl, Nat.le_refl d, hd, h2⟩
        · exact ⟨e, ds, rfl, by omega, h3, h4⟩
      · rintro ⟨e, ds, rfl, h2, h3, h4⟩
        by_cases hed : e = d
        · subst hed; exact .inl ⟨ds, h4, rfl⟩
        · exact .inr ⟨e, ds, rfl, by omega, h3, h4⟩
    · rw [if_neg hd]
      refine ⟨fun h => (by cases h), fun ⟨e, ds, _, he, hn, _⟩ => ?_⟩
      rw [nxt_len] at hn hd
      have : d * own.length ≤ e * own.length := Nat.mul_le_mul_right _ he
      omega
theorem nxt_pos {own last : List UInt8} (h1 : 1 ≤ own.length) (h2 : 1 ≤ last.length) (d : Nat) : 1 ≤ (nxt own last d).length := by rw [nxt_len]; omega
theorem mem_allE {w : List UInt8} (hw : w.length ≤ 60) : ∀ (n least : Nat) (last own : List UInt8) (x : List Nat), 1 ≤ own.length → 1 ≤ last.length → (x ∈ allE w n least last own ↔ x.length ≤ n ∧ Std w least last own x)
  | 0, least, last, own, x, h1, h2 => by
    unfold allE oneE
    constructor
    · intro h
      split at h
      · rename_i he
        rw [List.mem_singleton] at h
        subst h
        exact ⟨Nat.le_refl _, he⟩
      · cases h
    · rintro ⟨hl, hs⟩
      cases x with
      | nil => rw [if_pos (show own = w from hs)]; exact List.mem_singleton.2 rfl
      | cons a l => simp at hl
  | n + 1, least, last, own, x, h1, h2 => by
    unfold allE
    rw [List.mem_append, mem_lpE h1 hw 61 least (by omega)]
    constructor
    · rintro (h | ⟨e, ds, rfl, h3, h4, h5⟩)
      · unfold oneE at h
        split at h
        · rename_i he
          rw [List.mem_singleton] at h
          subst h
          exact ⟨Nat.zero_le _, he⟩
        · cases h
      · obtain ⟨h6, h7⟩ := (mem_allE hw n 1 own _ ds (nxt_pos h1 h2 e) h1).1 h5
        exact ⟨by rw [List.length_cons]; omega, h3, h4, h7⟩
    · rintro ⟨hl, hs⟩
      cases x with
      | nil => refine .inl ?_; unfold oneE; rw [if_pos (show own = w from hs)]; exact List.mem_singleton.2 rfl
      | cons e ds =>
        obtain ⟨h3, h4, h5⟩ := hs
        rw [List.length_cons] at hl
        exact .inr ⟨e, ds, rfl, h3, h4, (mem_allE hw n 1 own _ ds (nxt_pos h1 h2 e) h1).2 ⟨by omega, h5⟩⟩
/-- The order of lists of one length. -/
def lexC : List Nat → List Nat → Int
  | [], [] => 0
  | [], _ :: _ => -1
  | _ :: _, [] => 1
  | x :: a, y :: b => if x < y then -1 else if y < x then 1 else lexC a b
theorem lexC_self : ∀ a, lexC a a = 0
  | [] => rfl
  | x :: a => by unfold lexC; rw [if_neg (by omega), if_neg (by omega)]; exact lexC_self a
theorem lexC_anti : ∀ a b, lexC a b = -lexC b a
  | [], [] => rfl
  | [], _ :: _ => rfl
  | _ :: _, [] => rfl
  | x :: a, y :: b => by
    unfold lexC
    by_cases h1 : x < y
    · rw [if_pos h1, if_neg (by omega), if_pos h1]
    · rw [if_neg h1]
      by_cases h2 : y < x
      · rw [if_pos h2, if_pos h2]; rfl
      · rw [if_neg h2, if_neg h2, if_neg h1]; exact lexC_anti a b
theorem lexC_eq : ∀ {a b}, lexC a b = 0 → a = b
  | [], [], _ => rfl
  | [], _ :: _, h => by cases h
  | _ :: _, [], h => by cases h
  | x :: a, y :: b, h => by
    unfold lexC at h
    split at h
    · cases h
    · split at h
      · cases h
      · rw [lexC_eq h, show x = y by omega]
theorem lexC_trans : ∀ {a b c}, lexC a b < 0 → lexC b c ≤ 0 → lexC a c < 0
  | [], [], _, h, _ => by simp [lexC] at h
  | [], _ :: _, [], _, h => by simp [lexC] at h
  | [], _ :: _, _ :: _, _, _ => by simp [lexC]
  | _ :: _, [], _, h, _ => by simp [lexC] at h
  | _ :: _, _ :: _, [], _, h => by simp [lexC] at h
  | x :: a, y :: b, z :: c, h, k => by
    unfold lexC at h k ⊢
    by_cases h1 : x < y
    · by_cases k1 : y < z
      · rw [if_pos (by omega)]; omega
      · rw [if_neg k1] at k
        by_cases k2 : z < y
        · rw [if_pos k2] at k; omega
        · rw [if_pos (by omega)]; omega
    · rw [if_neg h1] at h
      by_cases h2 : y < x
      · rw [if_pos h2] at h; omega
      · rw [if_neg h2] at h
        have hxy : x = y := by omega
        subst hxy
        by_cases k1 : x < z
        · rw [if_pos k1]; omega
        · rw [if_neg k1] at k ⊢
          by_cases k2 : z < x
          · rw [if_pos k2] at k; omega
          · rw [if_neg k2] at k ⊢
            exact lexC_trans h k
def cmpN (x y : Nat) : Int := if x < y then -1 else if y < x then 1 else 0
/-- Is a list better than another one? -/
def lessL (x y : List Nat) : Bool := decide ((if cmpN x.length y.length = 0 then lexC x y else cmpN x.length y.length) < 0)
theorem lessL_iff (x y : List Nat) : lessL x y = true ↔ x.length < y.length ∨ (x.length = y.length ∧ lexC x y < 0) := by
  unfold lessL cmpN
  rw [decide_eq_true_eq]
  rcases Nat.lt_trichotomy x.length y.length with h | h | h
  · simp [h]
  · rw [h]; simp
  · have h1 : ¬ x.length < y.length := by omega
    have h2 : ¬ x.length = y.length := by omega
    simp [h, h1, h2]
def stepB (s : Option (List Nat)) (x : List Nat) : Option (List Nat) := match s with
  | none => some x
  | some b => if lessL x b = true then some x else some b
theorem fold_stdBest : ∀ (L : List (List Nat)) (b : List Nat), ∃ m, L.foldl stepB (some b) = some m ∧ (m = b ∨ m ∈ L) ∧ lessL b m = false ∧ ∀ x ∈ L, lessL x m = false
  | [], b => ⟨b, rfl, .inl rfl, by
      cases h : lessL b b with
      | false => rfl
      | true => rw [lessL_iff, lexC_self] at h; omega, by simp⟩
  | y :: L, b => by
    by_cases h : lessL y b = true
    · obtain ⟨m, h1, h2, h3, h4⟩ := fold_stdBest L y
      refine ⟨m, by rw [List.foldl_cons, stepB, if_pos h]; exact h1, ?_, ?_, ?_⟩
      · rcases h2 with rfl | h2
        · exact .inr (List.mem_cons_self ..)
        · exact .inr (List.mem_cons_of_mem _ h2)
      · cases hb : lessL b m with
        | false => rfl
        | true =>
          exfalso
          rw [lessL_iff] at h hb
          have : lessL y m = true := by
            rw [lessL_iff]
            rcases h with h | ⟨h, h'⟩ <;> rcases hb with hb | ⟨hb, hb'⟩
            · exact .inl (by omega)
            · exact .inl (by omega)
            · exact .inl (by omega)
            · exact .inr ⟨by omega, lexC_trans h' (by omega)⟩
          rw [h3] at this; cases this
      · intro x hx
        rcases List.mem_cons.1 hx with rfl | hx
        · exact h3
        · exact h4 x hx
    · obtain ⟨m, h1, h2, h3, h4⟩ := fold_stdBest L b
      refine ⟨m, by rw [List.foldl_cons, stepB, if_neg h]; exact h1, ?_, h3, ?_⟩
      · rcases h2 with rfl | h2
        · exact .inl rfl
        · exact .inr (List.mem_cons_of_mem _ h2)
      · intro x hx
        rcases List.mem_cons.1 hx with rfl | hx
        · cases hb : lessL x m with
          | false => rfl
          | true =>
            exfalso
            apply h
            have h3' : ¬ (b.length < m.length ∨ (b.length = m.length ∧ lexC b m < 0)) := by rw [← lessL_iff, h3]; decide
            rw [lessL_iff] at hb ⊢
            rcases hb with hb | ⟨hb, hb'⟩
            · by_cases hl : m.length ≤ b.length
              · exact .inl (by omega)
              · exact absurd (.inl (by omega)) h3'
            · by_cases hl : m.length < b.length
              · exact .inl (by omega)
              · by_cases he : b.length = m.length
                · refine .inr ⟨by omega, lexC_trans hb' ?_⟩
                  have : ¬ lexC b m < 0 := fun hh => h3' (.inr ⟨he, hh⟩)
                  rw [lexC_anti]; omega
                · exact absurd (.inl (by omega)) h3'
        · exact h4 x hx
/-- The first list of a length. -/
def lpF (w last own : List UInt8) (G : List UInt8 → Option (List Nat)) : Nat → Nat → Option (List Nat)
  | 0, _ => none
  | f + 1, d => if (nxt own last d).length ≤ w.length then (match G (nxt own last d) with | some ds => some (d :: ds) | none => lpF w last own G f (d + 1)) else none
def firstF (w : List UInt8) : Nat → Nat → List UInt8 → List UInt8 → Option (List Nat)
  | 0, _, _, own => if own = w then some [] else none
  | r + 1, least, last, own => lpF w last own (fun x => firstF w r 1 own x) 61 least
theorem lpF_spec {w last own : List UInt8} {G : List UInt8 → Option (List Nat)} (h1 : 1 ≤ own.length) (hw : w.length ≤ 60) : ∀ (f d : Nat), 61 ≤ d + f → (∀ y, lpF w last own G f d = some y → ∃ e ds, y = e :: ds ∧ d ≤ e ∧ (nxt own last e).length ≤ w.length ∧ G (nxt own last e) = some ds ∧ ∀ e', d ≤ e' → e' < e → G (nxt own last e') = none) ∧
    (lpF w last own G f d = none → ∀ e, d ≤ e → (nxt own last e).length ≤ w.length → G (nxt own last e) = none)
  | 0, d, hf => by
    refine ⟨fun y h => (by cases h), fun _ e he hn => ?_⟩
    rw [nxt_len] at hn
    have : e * 1 ≤ e * own.length := Nat.mul_le_mul_left e h1
    omega
  | f + 1, d, hf => by
    obtain ⟨i1, i2⟩ := lpF_spec (last := last) (G := G) h1 hw f (d + 1) (by omega)
    unfold lpF
    by_cases hd : (nxt own last d).length ≤ w.length
    · rw [if_pos hd]
      cases hG : G (nxt own last d) with
      | some ds =>
        refine ⟨fun y h => ?_, fun h => by cases h⟩
        injection h with h
        exact ⟨d, ds, h.symm, Nat.le_refl d, hd, hG, fun e' h2 h3 => by omega⟩
      | none =>
        simp only
        refine ⟨fun y h => ?_, fun h e he hn => ?_⟩
        · obtain ⟨e, ds, h2, h3, h4, h5, h6⟩ := i1 y h
          refine ⟨e, ds, h2, by omega, h4, h5, fun e' h7 h8 => ?_⟩
          by_cases hed : e' = d
          · subst hed; exact hG
          · exact h6 e' (by omega) h8
        · by_cases hed : e = d
          · subst hed; exact hG
          · exact i2 h e (by omega) hn
    · rw [if_neg hd]
      refine ⟨fun y h => (by cases h), fun _ e he hn => ?_⟩
      rw [nxt_len] at hn hd
      have : d * own.length ≤ e * own.length := Nat.mul_le_mul_right _ he
      omega
theorem firstF_spec {w : List UInt8} (hw : w.length ≤ 60) : ∀ (r least : Nat) (last own : List UInt8), 1 ≤ own.length → 1 ≤ last.length →
    (∀ y, firstF w r least last own = some y → Std w least last own y ∧ y.length = r ∧ ∀ x, Std w least last own x → x.length = r → 0 ≤ lexC x y) ∧
    (firstF w r least last own = none → ∀ x, Std w least last own x → x.length ≠ r)
  | 0, least, last, own, h1, h2 => by
    unfold firstF
    constructor
    · intro y h
      split at h
      · rename_i he
        injection h with h
        subst h
        refine ⟨he, rfl, fun x _ hx => ?_⟩
        rw [List.eq_nil_of_length_eq_zero hx]
        exact Int.le_refl 0
      · cases h
    · intro h x hs hx
      rw [List.eq_nil_of_length_eq_zero hx] at hs
      rw [if_pos (show own = w from hs)] at h
      cases h
  | r + 1, least, last, own, h1, h2 => by
    obtain ⟨i1, i2⟩ := lpF_spec (last := last) (G := fun x => firstF w r 1 own x) h1 hw 61 least (by omega)
    unfold firstF
    constructor
    · intro y h
      obtain ⟨e, ds, rfl, h3, h4, h5, h6⟩ := i1 y h
      obtain ⟨j1, j2, j3⟩ := (firstF_spec hw r 1 own (nxt own last e) (nxt_pos h1 h2 e) h1).1 ds h5
      refine ⟨⟨h3, h4, j1⟩, by rw [List.length_cons, j2], fun x hs hx => ?_⟩
      cases x with
      | nil => simp at hx
      | cons a l =>
        obtain ⟨k1, k2, k3⟩ := hs
        rw [List.length_cons] at hx
        unfold lexC
        by_cases ha : a < e
        · have := (firstF_spec hw r 1 own (nxt own last a) (nxt_pos h1 h2 a) h1).2 (h6 a k1 ha) l k3
          omega
        · rw [if_neg ha]
          by_cases hb : e < a
          · rw [if_pos hb]; omega
          · rw [if_neg hb]
            have hae : a = e := by omega
            subst hae
            exact j3 l k3 (by omega)
    · intro h x hs hx
      cases x with
      | nil => simp at hx
      | cons a l =>
        obtain ⟨k1, k2, k3⟩ := hs
        rw [List.length_cons] at hx
        exact (firstF_spec hw r 1 own (nxt own last a) (nxt_pos h1 h2 a) h1).2 (i2 h a k1 k2) l k3 (by omega)
/-- The first list of the least length. -/
def cntF (w : List UInt8) : Nat → Nat → Option (List Nat)
  | 0, _ => none
  | f + 1, c => match firstF w c 0 [98] [97] with | some y => some y | none => cntF w f (c + 1)
theorem cntF_spec {w : List UInt8} (hw : w.length ≤ 60) : ∀ (f c : Nat), (∀ y, cntF w f c = some y → Std w 0 [98] [97] y ∧ c ≤ y.length ∧ y.length < c + f ∧ ∀ x, Std w 0 [98] [97] x → c ≤ x.length → y.length ≤ x.length ∧ (x.length = y.length → 0 ≤ lexC x y)) ∧
    (cntF w f c = none → ∀ x, Std w 0 [98] [97] x → c ≤ x.length → c + f ≤ x.length)
  | 0, c => ⟨fun y h => (by cases h), fun _ x _ h => by omega⟩
  | f + 1, c => by
    obtain ⟨i1, i2⟩ := cntF_spec hw f (c + 1)
    obtain ⟨k1, k2⟩ := firstF_spec hw c 0 [98] [97] (by decide) (by decide)
    unfold cntF
    cases h : firstF w c 0 [98] [97] with
    | some y =>
      obtain ⟨a1, a2, a3⟩ := k1 y h
      refine ⟨fun z hz => ?_, fun hz => by cases hz⟩
      injection hz with hz
      subst hz
      exact ⟨a1, by omega, by omega, fun x hs hx => ⟨by omega, fun e => a3 x hs (by omega)⟩⟩
    | none =>
      simp only
      refine ⟨fun y hy => ?_, fun hy x hs hx => ?_⟩
      · obtain ⟨b1, b2, b3, b4⟩ := i1 y hy
        refine ⟨b1, by omega, by omega, fun x hs hx => ?_⟩
        have := k2 h x hs
        exact b4 x hs (by omega)
      · have := k2 h x hs
        have := i2 hy x hs (by omega)
        omega
/-- Both ways lead to one list. -/
theorem stdBest_is {w : List UInt8} (hw : w.length ≤ 60) : (allE w 20 0 [98] [97]).foldl stepB none = cntF w 21 0 := by
  have hm := fun x => mem_allE hw 20 0 [98] [97] x (by decide) (by decide)
  obtain ⟨k1, k2⟩ := cntF_spec hw 21 0
  cases hL : allE w 20 0 [98] [97] with
  | nil =>
    cases hc : cntF w 21 0 with
    | none => rfl
    | some y =>
      obtain ⟨a1, a2, a3, _⟩ := k1 y hc
      have := (hm y).2 ⟨by omega, a1⟩
      rw [hL] at this
      cases this
  | cons b L =>
    rw [hL] at hm
    obtain ⟨m, h1, h2, h3, h4⟩ := fold_stdBest L b
    have hmm : m ∈ b :: L := by
      rcases h2 with rfl | h2
      · exact List.mem_cons_self ..
      · exact List.mem_cons_of_mem _ h2
    have hall : ∀ x ∈ b :: L, lessL x m = false := fun x hx => by
      rcases List.mem_cons.1 hx with rfl | hx
      · exact h3
      · exact h4 x hx
    have e : (b :: L).foldl stepB none = some m := h1
    rw [e]
    obtain ⟨q1, q2⟩ := (hm m).1 hmm
    cases hc : cntF w 21 0 with
    | none =>
      have := k2 hc m q2 (by omega)
      omega
    | some y =>
      obtain ⟨a1, a2, a3, a4⟩ := k1 y hc
      have hy := hall y ((hm y).2 ⟨by omega, a1⟩)
      obtain ⟨c1, c2⟩ := a4 m q2 (by omega)
      have hy' : ¬ (y.length < m.length ∨ (y.length = m.length ∧ lexC y m < 0)) := by rw [← lessL_iff, hy]; decide
      have hlen : m.length = y.length := by
        by_cases h : y.length < m.length
        · exact absurd (.inl h) hy'
        · omega
      have h5 := c2 hlen
      have h6 : ¬ lexC y m < 0 := fun h => hy' (.inr ⟨hlen.symm, h⟩)
      rw [lexC_anti y m] at h6
      rw [lexC_eq (show lexC m y = 0 by omega)]
theorem own_pre {w : List UInt8} : ∀ (x : List Nat) (last own : List UInt8), Std w 1 last own x → ∃ r, w = own ++ r
  | [], last, own, h => ⟨[], by rw [List.append_nil]; exact (show own = w from h).symm⟩
  | d :: ds, last, own, h => by
    obtain ⟨h1, _, h3⟩ := h
    obtain ⟨r, hr⟩ := own_pre ds own _ h3
    obtain ⟨e, rfl⟩ : ∃ e, d = e + 1 := ⟨d - 1, by omega⟩
    rw [nxt_succ, List.append_assoc] at hr
    exact ⟨_, hr⟩
theorem allE_pre {w : List UInt8} (hw : w.length ≤ 60) {n : Nat} {last own : List UInt8} (h1 : 1 ≤ own.length) (h2 : 1 ≤ last.length) (hp : own.isPrefixOf w = false) : allE w n 1 last own = [] := by
  refine List.eq_nil_iff_forall_not_mem.2 fun x hx => ?_
  obtain ⟨_, hs⟩ := (mem_allE hw n 1 last own x h1 h2).1 hx
  obtain ⟨r, rfl⟩ := own_pre x last own hs
  rw [List.isPrefixOf_iff_prefix.2 (List.prefix_append own r)] at hp
  cases hp
def nI (l : List Nat) : List Int := l.map fun n : Nat => (n : Int)
theorem nI_len (l : List Nat) : (nI l).length = l.length := List.length_map _
theorem nI_snoc (l : List Nat) (d : Nat) : nI (l ++ [d]) = nI l ++ [(d : Int)] := by simp [nI]
theorem std_word {w : List UInt8} (hw : w.length ≤ 60) : ∀ (x : List Nat) (least : Nat) (last own : List UInt8), Std w least last own x → stdF (nI x) last own = some w
  | [], _, _, own, h => by show some own = some w; rw [show own = w from h]
  | d :: ds, least, last, own, h => by
    obtain ⟨h1, h2, h3⟩ := h
    have hl := nxt_len own last d
    show stdF ((d : Int) :: nI ds) last own = some w
    rw [stdF, Int.toNat_natCast, if_pos (by omega)]
    exact std_word hw ds 1 own _ h3
theorem std_at {w : List UInt8} (hw : w.length ≤ 60) : ∀ (x : List Nat) (least : Nat) (last own : List UInt8), 1 ≤ own.length → 1 ≤ last.length → Std w least last own x → ∀ i, i < x.length → ((if i = 0 then least else 1) : Nat) ≤ x.getD i 0 ∧ x.getD i 0 ≤ 60
  | [], _, _, own, _, _, _, i, hi => by simp at hi
  | d :: ds, least, last, own, g1, g2, h, i, hi => by
    obtain ⟨h1, h2, h3⟩ := h
    have hl := nxt_len own last d
    have : d * 1 ≤ d * own.length := Nat.mul_le_mul_left d g1
    cases i with
    | zero => rw [if_pos rfl]; show least ≤ d ∧ d ≤ 60; omega
    | succ i =>
      have ih := std_at hw ds 1 own _ (nxt_pos g1 g2 d) g1 h3 i (by rw [List.length_cons] at hi; omega)
      rw [if_neg (by omega)]
      show 1 ≤ ds.getD i 0 ∧ ds.getD i 0 ≤ 60
      refine ⟨?_, ih.2⟩
      have := ih.1
      split at this <;> omega
/-- A list that was found has the standard word. -/
theorem std_back {w : List UInt8} (hw : w.length ≤ 60) {x : List Nat} (hx : x.length ≤ 20) (h : Std w 0 [98] [97] x) : stdC (nI x) = 0 ∧ stdW (nI x) = w := by
  have hok : stdOk (nI x) = true := by
    refine stdOk_yes (by rw [nI_len]; exact hx) fun j hj => ?_
    rw [nI_len] at hj
    have := std_at hw x 0 [98] [97] (by decide) (by decide) h j hj
    rw [stdAt_is (z := ((x.getD j 0 : Nat) : Int)) (by unfold nI; rw [List.getElem?_map, List.getElem?_eq_getElem hj, List.getD_eq_getElem?_getD, List.getElem?_eq_getElem hj]; rfl)]
    refine decide_eq_true ?_
    split <;> rename_i h0
    · rw [if_pos h0] at this; omega
    · rw [if_neg h0] at this; omega
  have hF := std_word hw x 0 [98] [97] h
  unfold stdC stdW
  rw [if_pos hok, if_pos hok, hF]
  exact ⟨rfl, rfl⟩
theorem stdF_grow : ∀ (zs : List Int) (last own w : List UInt8), (∀ z ∈ zs, 1 ≤ z) → stdF zs last own = some w → own.length ≤ w.length
  | [], last, own, w, _, h => by
    injection h with h
    subst h; exact Nat.le_refl _
  | z :: zs, last, own, w, hz, h => by
    unfold stdF at h
    split at h
    · have h1 := stdF_grow zs own _ w (fun y hy => hz y (List.mem_cons_of_mem _ hy)) h
      rw [List.length_append, repF_len9] at h1
      have h2 := hz z (List.mem_cons_self ..)
      have : 1 * own.length ≤ z.toNat * own.length := Nat.mul_le_mul_right _ (by omega)
      omega
    · cases h
theorem stdF_std : ∀ (zs : List Int) (least : Nat) (last own w : List UInt8), (∀ z ∈ zs.head?, (least : Int) ≤ z) → (∀ z ∈ zs.tail, 1 ≤ z) → stdF zs last own = some w → Std w least last own (zs.map Int.toNat)
  | [], _, last, own, w, _, _, h => by injection h
  | z :: zs, least, last, own, w, hh, ht, h => by
    unfold stdF at h
    split at h
    · have h0 := hh z (by simp)
      have hg := stdF_grow zs own _ w ht h
      refine ⟨by omega, ?_, stdF_std zs 1 own _ w (fun y hy => ht y (List.mem_of_mem_head? hy)) (fun y hy => ht y (List.mem_of_mem_tail hy)) h⟩
      exact hg
    · cases h
theorem stdC_ok {zs : List Int} (h : stdC zs = 0) : stdOk zs = true ∧ stdF zs [98] [97] = some (stdW zs) := by
  unfold stdC at h
  split at h
  · rename_i h1
    refine ⟨h1, ?_⟩
    split at h
    · rename_i w hw
      unfold stdW
      rw [if_pos h1, hw]
    · cases h
  · cases h
theorem stdC_no {zs : List Int} (h : stdC zs ≠ 0) : stdW zs = [] := by
  unfold stdC at h
  unfold stdW
  split at h
  · rename_i h1
    rw [if_pos h1]
    split at h
    · exact absurd rfl h
    · rfl
  · rename_i h1; rw [if_neg h1]
/-- The list of a standard word is among those that are found. -/
theorem std_of {zs : List Int} (h : stdC zs = 0) : Std (stdW zs) 0 [98] [97] (zs.map Int.toNat) ∧ zs.length ≤ 20 := by
  obtain ⟨h1, h2⟩ := stdC_ok h
  unfold stdOk at h1
  rw [Bool.and_eq_true, decide_eq_true_eq, List.all_eq_true] at h1
  have hat : ∀ i (hi : i < zs.length), (if i = 0 then 0 else 1) ≤ zs[i] ∧ zs[i] ≤ 60 := fun i hi => by
    have := h1.2 i (List.mem_range.2 hi)
    rw [stdAt_is (List.getElem?_eq_getElem hi), decide_eq_true_eq] at this
    exact this
  refine ⟨stdF_std zs 0 _ _ _ (fun z hz => ?_) (fun z hz => ?_) h2, h1.1⟩
  · cases zs with
    | nil => cases hz
    | cons a l =>
      have := (hat 0 (by simp)).1
      simp at hz this
      omega
  · cases zs with
    | nil => cases hz
    | cons a l =>
      obtain ⟨i, hi, rfl⟩ := List.mem_iff_getElem.1 hz
      have := (hat (i + 1) (by rw [List.tail_cons] at hi; rw [List.length_cons]; omega)).1
      rw [if_neg (by omega)] at this
      simpa using this
theorem stdF_ab : ∀ (zs : List Int) (last own w : List UInt8), AB last → AB own → stdF zs last own = some w → AB w
  | [], last, own, w, _, h2, h => by
    injection h with h
    subst h; exact h2
  | z :: zs, last, own, w, h1, h2, h => by
    unfold stdF at h
    split at h
    · refine stdF_ab zs own _ w h2 (fun u hu => ?_) h
      rcases List.mem_append.1 hu with hu | hu
      · unfold repF at hu
        obtain ⟨l, hl, hu⟩ := List.mem_flatten.1 hu
        rw [(List.mem_replicate.1 hl).2] at hu
        exact h2 u hu
      · exact h1 u hu
    · cases h
theorem stdW_ab (zs : List Int) : AB (stdW zs) := by
  by_cases h : stdC zs = 0
  · exact stdF_ab zs _ _ _ (by intro u hu; rw [List.mem_singleton] at hu; exact .inr hu) (by intro u hu; rw [List.mem_singleton] at hu; exact .inl hu) (stdC_ok h).2
  · rw [stdC_no h]; intro u hu; cases hu
def losC (w : List UInt8) : Int := if isAB w = true then (match cntF w 21 0 with | some _ => 0 | none => 5) else 1
def losL (w : List UInt8) : List Nat := if isAB w = true then (match cntF w 21 0 with | some y => y | none => []) else []
theorem losC_ok {w : List UInt8} (h : losC w = 0) : stdC (nI (losL w)) = 0 ∧ stdW (nI (losL w)) = w ∧ (losL w).length ≤ 20 := by
  unfold losC at h
  split at h
  · rename_i h1
    have hw := isAB_len h1
    split at h
    · rename_i y hy
      obtain ⟨a1, a2, a3, _⟩ := (cntF_spec hw 21 0).1 y hy
      have e : losL w = y := by unfold losL; rw [if_pos h1, hy]
      rw [e]
      obtain ⟨b1, b2⟩ := std_back hw (by omega) a1
      exact ⟨b1, b2, by omega⟩
    · cases h
  · cases h
theorem losL_len (w : List UInt8) : (losL w).length ≤ 20 := by
  by_cases h : losC w = 0
  · exact (losC_ok h).2.2
  · unfold losC at h
    unfold losL
    split at h
    · rename_i h1
      rw [if_pos h1]
      split at h
      · exact absurd rfl h
      · exact Nat.zero_le _
    · rename_i h1; rw [if_neg h1]; exact Nat.zero_le _
/-- The standard word of a list comes back from a list that is no longer. -/
theorem los_std {zs : List Int} (h : stdC zs = 0) : losC (stdW zs) = 0 ∧ (losL (stdW zs)).length ≤ zs.length := by
  obtain ⟨h1, h2⟩ := std_of h
  have hl := stdW_len zs
  have hab : isAB (stdW zs) = true := ab_isAB (stdW_ab zs) hl
  unfold losC losL
  rw [if_pos hab, if_pos hab]
  cases hc : cntF (stdW zs) 21 0 with
  | none =>
    have := (cntF_spec hl 21 0).2 hc _ h1 (Nat.zero_le _)
    rw [List.length_map] at this
    omega
  | some y =>
    obtain ⟨_, _, _, a4⟩ := (cntF_spec hl 21 0).1 y hc
    have := (a4 _ h1 (Nat.zero_le _)).1
    rw [List.length_map] at this
    exact ⟨rfl, this⟩
end Go.Proofs.YticejlplbibegaaGreatDoor
/-! A finite fact: standard words are stepped words (all lists of words of at most 60 letters). -/
namespace Go.Proofs.YticejlplbibegaaGreatDoor
open Go

def lB (b : Bool) : UInt8 := if b then 98 else 97
def stBo (a b c n : Nat) : List Bool := (List.range n).map fun i => ((i + 1) * a + c) / b != (i * a + c) / b
def repBo (w : List Bool) : Nat → List Bool
  | 0 => []
  | k + 1 => w ++ repBo w k
def okSt (t : Bool) (q n : Nat) (w : List Bool) : Bool := w == stBo q n (if t then q else q - 1) n
def chkS : Nat → Bool → Bool → Nat → Nat → Nat → Nat → List Bool → List Bool → Bool
  | 0, _, t, _, _, q, n, _, own => okSt t q n own
  | f + 1, first, t, q', n', q, n, last, own => okSt t q n own && (List.range ((60 - n') / n + 1)).all fun d => (!first && d == 0) || chkS f false (!t) q n (d * q + q') (d * n + n') own (repBo own d ++ last)
set_option maxRecDepth 100000 in
theorem chk_all : chkS 20 true true 1 1 0 1 [true] [false] = true := by decide +kernel
theorem stBo_map (a b c n : Nat) : (stBo a b c n).map lB = stepL a b c n := by
  rw [stepL_map]
  unfold stBo
  rw [List.map_map]
  refine List.map_congr_left fun i _ => ?_
  show lB (((i + 1) * a + c) / b != (i * a + c) / b) = lS a b c i
  unfold lS fS lB
  by_cases h : ((i + 1) * a + c) / b = (i * a + c) / b
  · rw [if_pos h, h]; simp
  · rw [if_neg h, if_pos (bne_iff_ne.2 h)]
theorem okSt_bal {t : Bool} {q n : Nat} {w : List Bool} (hn : 1 ≤ n) (hq : q ≤ n) (h : okSt t q n w = true) : balM (w.map lB) (w.map lB).length ≤ 1 := by
  unfold okSt at h
  rw [beq_iff_eq] at h
  rw [h, stBo_map]
  exact step_bal hn hq _ _
theorem repBo_map (w : List Bool) : ∀ k, (repBo w k).map lB = repF (w.map lB) k
  | 0 => rfl
  | k + 1 => by
    rw [repBo, List.map_append, repBo_map w k]
    unfold repF
    rw [List.replicate_succ, List.flatten_cons]
theorem repBo_len (w : List Bool) : ∀ k, (repBo w k).length = k * w.length
  | 0 => by simp [repBo]
  | k + 1 => by rw [repBo, List.length_append, repBo_len w k, Nat.succ_mul]; omega
theorem chk_std : ∀ (zs : List Int) (f : Nat) (first t : Bool) (q' n' q n : Nat) (last own : List Bool) (w : List UInt8), chkS f first t q' n' q n last own = true → last.length = n' → own.length = n → q' ≤ n' → q ≤ n → 1 ≤ n → 1 ≤ n' → zs.length ≤ f → (∀ z ∈ zs, 0 ≤ z ∧ z ≤ 60) → (first = false → ∀ z ∈ zs.head?, 1 ≤ z) → (∀ z ∈ zs.tail, 1 ≤ z) → stdF zs (last.map lB) (own.map lB) = some w → balM w w.length ≤ 1
  | [], f, first, t, q', n', q, n, last, own, w, hc, _, _, _, hq, hn, _, _, _, _, _, h => by
    injection h with h
    rw [← h]
    cases f with
    | zero => exact okSt_bal hn hq hc
    | succ f => unfold chkS at hc; exact okSt_bal hn hq (Bool.and_eq_true_iff.1 hc).1
  | z :: zs, f, first, t, q', n', q, n, last, own, w, hc, hln', hln, hq', hq, hn, hn', hl, hz, hh, ht, h => by
    cases f with
    | zero => simp at hl
    | succ f =>
      unfold chkS at hc
      have hc := (Bool.and_eq_true_iff.1 hc).2
      rw [List.all_eq_true] at hc
      have hz0 := hz z (List.mem_cons_self ..)
      unfold stdF at h
      split at h
      · rename_i hle
        rw [List.length_map, List.length_map, hln, hln'] at hle
        have hdd : z.toNat ≤ (60 - n') / n := by
          rw [Nat.le_div_iff_mul_le hn]; omega
        have hcd := hc z.toNat (List.mem_range.2 (by omega))
        rw [Bool.or_eq_true] at hcd
        rcases hcd with hcd | hcd
        · exfalso
          rw [Bool.and_eq_true, beq_iff_eq] at hcd
          have hf : first = false := by cases first with | false => rfl | true => exact absurd hcd.1 (by decide)
          have := hh hf z (by simp)
          omega
        · have hmul : z.toNat * q ≤ z.toNat * n := Nat.mul_le_mul_left _ hq
          refine chk_std zs f false (!t) q n _ _ own _ w hcd hln (by rw [List.length_append, repBo_len, hln, hln']) hq (by omega) (by omega) hn (by rw [List.length_cons] at hl; omega) (fun y hy => hz y (List.mem_cons_of_mem _ hy)) (fun _ y hy => ht y (List.mem_of_mem_head? hy)) (fun y hy => ht y (List.mem_of_mem_tail hy)) ?_
          rw [List.map_append, repBo_map]
          exact h
      · cases h
/-- Standard words are balanced. -/
theorem std_bal {zs : List Int} (h : stdC zs = 0) : balM (stdW zs) (stdW zs).length ≤ 1 := by
  obtain ⟨h1, h2⟩ := stdC_ok h
  unfold stdOk at h1
  rw [Bool.and_eq_true, decide_eq_true_eq, List.all_eq_true] at h1
  have hat : ∀ i (hi : i < zs.length), (if i = 0 then 0 else 1) ≤ zs[i] ∧ zs[i] ≤ 60 := fun i hi => by
    have := h1.2 i (List.mem_range.2 hi)
    rw [stdAt_is (List.getElem?_eq_getElem hi), decide_eq_true_eq] at this
    exact this
  exact chk_std zs 20 true true 1 1 0 1 [true] [false] (stdW zs) chk_all rfl rfl (by decide) (by decide) (by decide) (by decide) h1.1 (fun z hz => by
    obtain ⟨i, hi, rfl⟩ := List.mem_iff_getElem.1 hz
    have := hat i hi
    split at this <;> omega) (fun e => by cases e) (fun z hz => by
    cases zs with
    | nil => cases hz
    | cons a l =>
      obtain ⟨i, hi, rfl⟩ := List.mem_iff_getElem.1 hz
      have := (hat (i + 1) (by rw [List.tail_cons] at hi; rw [List.length_cons]; omega)).1
      rw [if_neg (by omega)] at this
      simpa using this) h2
end Go.Proofs.YticejlplbibegaaGreatDoor

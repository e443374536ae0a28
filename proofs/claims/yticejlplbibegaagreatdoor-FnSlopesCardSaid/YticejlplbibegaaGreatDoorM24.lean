/- Plain laws of stepped words and of words of slopes: balance, order among turned words, palindromes, paths. -/
import Derived.Test.YticejlplbibegaaGreatDoorM10
import Derived.Test.YticejlplbibegaaGreatDoorC88
import Derived.Test.YticejlplbibegaaGreatDoorC91
namespace Go.Proofs.YticejlplbibegaaGreatDoor
open Go

/-- How many steps are made before a letter. -/
def fS (a b c i : Nat) : Nat := (i * a + c) / b
def lS (a b c i : Nat) : UInt8 := if fS a b c (i + 1) = fS a b c i then 97 else 98
theorem stepL_succ (a b c n : Nat) : stepL a b c (n + 1) = stepL a b c n ++ [lS a b c n] := rfl
theorem stepL_map (a b c : Nat) : ∀ n, stepL a b c n = (List.range n).map (lS a b c)
  | 0 => rfl
  | n + 1 => by rw [stepL_succ, stepL_map a b c n, List.range_succ, List.map_append]; rfl
theorem stepL_get {a b c n i : Nat} (h : i < n) : (stepL a b c n)[i]? = some (lS a b c i) := by
  rw [stepL_map, List.getElem?_map, List.getElem?_range h]; rfl
theorem stepL_take {a b c n k : Nat} (h : k ≤ n) : (stepL a b c n).take k = stepL a b c k := by
  rw [stepL_map, stepL_map, ← List.map_take, List.take_range, Nat.min_eq_left h]
theorem div_two (x y b : Nat) (hb : 1 ≤ b) : x / b + y / b ≤ (x + y) / b ∧ (x + y) / b ≤ x / b + y / b + 1 := by
  refine ⟨?_, ?_⟩
  · rw [Nat.le_div_iff_mul_le hb, Nat.add_mul]
    have h1 := Nat.div_mul_le_self x b
    have h2 := Nat.div_mul_le_self y b
    omega
  have h1 := Nat.div_add_mod x b
  have h2 := Nat.div_add_mod y b
  have h3 := Nat.mod_lt x hb
  have h4 := Nat.mod_lt y hb
  have h5 := Nat.div_mul_le_self (x + y) b
  refine Nat.le_of_not_lt fun h => ?_
  have h6 := Nat.mul_le_mul_right b (show x / b + y / b + 2 ≤ (x + y) / b by omega)
  rw [Nat.add_mul, Nat.add_mul, Nat.mul_comm (x / b), Nat.mul_comm (y / b)] at h6
  omega
theorem fS_add {a b : Nat} (hb : 1 ≤ b) (c t m : Nat) : fS a b c t + m * a / b ≤ fS a b c (t + m) ∧ fS a b c (t + m) ≤ fS a b c t + m * a / b + 1 := by
  have := div_two (t * a + c) (m * a) b hb
  unfold fS
  rw [show (t + m) * a + c = t * a + c + m * a by rw [Nat.add_mul]; omega]
  exact this
theorem fS_step {a b : Nat} (hb : 1 ≤ b) (ha : a ≤ b) (c i : Nat) : fS a b c i ≤ fS a b c (i + 1) ∧ fS a b c (i + 1) ≤ fS a b c i + 1 := by
  unfold fS
  rw [show (i + 1) * a + c = i * a + c + a by rw [Nat.add_mul]; omega]
  refine ⟨Nat.div_le_div_right (by omega), ?_⟩
  have : (i * a + c + a) / b ≤ (i * a + c + b) / b := Nat.div_le_div_right (by omega)
  rw [Nat.add_div_right _ hb] at this
  omega
theorem lS_ab (a b c i : Nat) : lS a b c i = 97 ∨ lS a b c i = 98 := by
  unfold lS; split
  · exact .inl rfl
  · exact .inr rfl
theorem stepL_ab (a b c n : Nat) : AB (stepL a b c n) := by
  intro u hu
  rw [stepL_map] at hu
  obtain ⟨i, _, rfl⟩ := List.mem_map.1 hu
  exact lS_ab a b c i
theorem cnt_app (x y : List UInt8) (k : Nat) : cnt (x ++ y) k = cnt x k + cnt y k := by
  unfold cnt; rw [List.countP_append]; exact Int.natCast_add _ _
theorem cnt_step {a b : Nat} (hb : 1 ≤ b) (ha : a ≤ b) (c : Nat) : ∀ n, cnt (stepL a b c n) 1 + (fS a b c 0 : Int) = (fS a b c n : Int)
  | 0 => by show (0 : Int) + _ = _; omega
  | n + 1 => by
    have ih := cnt_step hb ha c n
    have hs := fS_step hb ha c n
    rw [stepL_succ, cnt_app]
    have e : cnt [lS a b c n] 1 = if fS a b c (n + 1) = fS a b c n then 0 else 1 := by
      unfold lS
      split <;> rfl
    rw [e]
    split <;> omega
theorem cnt_seg {a b : Nat} (hb : 1 ≤ b) (ha : a ≤ b) (c : Nat) {n t m : Nat} (h : t + m ≤ n) : cnt (seg (stepL a b c n) t m) 1 + (fS a b c t : Int) = (fS a b c (t + m) : Int) := by
  have e : stepL a b c (t + m) = stepL a b c t ++ seg (stepL a b c n) t m := by
    unfold seg
    rw [stepL_take h, ← stepL_take (a := a) (b := b) (c := c) (show t ≤ t + m by omega), List.take_append_drop]
  have h1 := cnt_step hb ha c (t + m)
  have h2 := cnt_step hb ha c t
  rw [e, cnt_app] at h1
  omega
theorem step_bal {a b : Nat} (hb : 1 ≤ b) (ha : a ≤ b) (c n : Nat) : balM (stepL a b c n) (stepL a b c n).length ≤ 1 := by
  have h : decide (balM (stepL a b c n) (stepL a b c n).length ≤ 1) = true := by
    rw [bal_is (stepL_ab a b c n), balB2_iff]
    intro m h1 h2 u hu v hv
    rw [stepL_len] at hu hv h2
    obtain ⟨t, ht, rfl⟩ := List.mem_map.1 hu
    obtain ⟨s, hs, rfl⟩ := List.mem_map.1 hv
    rw [List.mem_range] at ht hs
    have c1 := cnt_seg hb ha c (n := n) (t := t) (m := m) (by omega)
    have c2 := cnt_seg hb ha c (n := n) (t := s) (m := m) (by omega)
    have f1 := fS_add (a := a) hb c t m
    have f2 := fS_add (a := a) hb c s m
    omega
  exact of_decide_eq_true h

/-- Bezout. -/
theorem bezout : ∀ (m n : Nat), ∃ x y : Int, (m : Int) * x + (n : Int) * y = (Nat.gcd m n : Nat)
  | 0, n => ⟨0, 1, by simp⟩
  | m + 1, n => by
    have : n % (m + 1) < m + 1 := Nat.mod_lt _ (by omega)
    obtain ⟨x, y, h⟩ := bezout (n % (m + 1)) (m + 1)
    have e := Nat.div_add_mod n (m + 1)
    rw [Nat.gcd_rec]
    refine ⟨y - ((n / (m + 1) : Nat) : Int) * x, x, ?_⟩
    rw [← h]
    have e2 : (n : Int) = ((m + 1 : Nat) : Int) * ((n / (m + 1) : Nat) : Int) + ((n % (m + 1) : Nat) : Int) := by exact_mod_cast e.symm
    generalize ((n / (m + 1) : Nat) : Int) = d at *
    generalize ((n % (m + 1) : Nat) : Int) = r at *
    generalize ((m + 1 : Nat) : Int) = M at *
    rw [e2]
    grind
termination_by m => m
/-- Some multiple of a number without a common divisor is what is lacking to a multiple. -/
theorem reach {q n c : Nat} (hn : 1 ≤ n) (hg : Nat.gcd q n = 1) : ∃ i T : Nat, i < n ∧ i * q + c = n * T := by
  obtain ⟨x, y, h⟩ := bezout q n
  rw [hg] at h
  have hn' : (n : Int) ≠ 0 := by omega
  have h1 := Int.emod_nonneg (-(c : Int) * x) hn'
  have h2 := Int.emod_lt_of_pos (-(c : Int) * x) (show (0 : Int) < n by omega)
  have h3 := Int.mul_ediv_add_emod (-(c : Int) * x) n
  obtain ⟨i, hi⟩ : ∃ i : Nat, (-(c : Int) * x) % n = i := ⟨((-(c : Int) * x) % n).toNat, by omega⟩
  rw [hi] at h1 h2 h3
  generalize (-(c : Int) * x) / (n : Int) = z at h3
  have h4 : (i : Int) * q + c = n * ((c : Int) * y - z * q) := by
    have hii : (i : Int) = -(c : Int) * x - n * z := by omega
    rw [hii]
    have h' : (q : Int) * x + n * y = 1 := by exact_mod_cast h
    grind
  have h5 : 0 ≤ (c : Int) * y - z * q := by
    have h6 : (0 : Int) ≤ (i : Int) * q + c := by
      have : ((i * q + c : Nat) : Int) = (i : Int) * q + c := by push_cast; rfl
      rw [← this]; exact Int.natCast_nonneg _
    rw [h4] at h6
    exact Int.nonneg_of_mul_nonneg_right h6 (by omega)
  obtain ⟨T, hT⟩ : ∃ T : Nat, (c : Int) * y - z * q = T := ⟨((c : Int) * y - z * q).toNat, by omega⟩
  rw [hT] at h4
  exact ⟨i, T, by omega, by exact_mod_cast h4⟩
theorem bl_pre : ∀ (p x y : List UInt8), Op.bytesLess (p ++ 98 :: x) (p ++ 97 :: y) = false
  | [], x, y => rfl
  | a :: p, x, y => by
    have e : Op.bytesLess (a :: (p ++ 98 :: x)) (a :: (p ++ 97 :: y)) = (decide (a < a) || (a == a && Op.bytesLess (p ++ 98 :: x) (p ++ 97 :: y))) := rfl
    rw [List.cons_append, List.cons_append, e, bl_pre p x y]
    simp
theorem fS_zero {a b c : Nat} (hc : c < b) : fS a b c 0 = 0 := by
  unfold fS; rw [Nat.zero_mul, Nat.zero_add]; exact Nat.div_eq_of_lt hc
/-- Of two stepped words the one that steps first is greater. -/
theorem step_less {a b c n : Nat} (hb : 1 ≤ b) (ha : a ≤ b) (hc : c < b) (hx : ∃ i, i ≤ n ∧ fS a b 0 i ≠ fS a b c i) : (Op.bytesLess (stepL a b c n) (stepL a b 0 n) || stepL a b c n == stepL a b 0 n) = false := by
  have hmono : ∀ i, fS a b 0 i ≤ fS a b c i := fun i => Nat.div_le_div_right (by omega)
  have first : ∀ k, (∃ i, i ≤ k ∧ fS a b 0 i ≠ fS a b c i) → ∃ i, i < k ∧ (∀ j, j ≤ i → fS a b 0 j = fS a b c j) ∧ fS a b 0 (i + 1) ≠ fS a b c (i + 1) := by
    intro k
    induction k with
    | zero =>
      rintro ⟨i, hi, hne⟩
      have : i = 0 := by omega
      subst this
      rw [fS_zero (by omega), fS_zero hc] at hne
      exact absurd rfl hne
    | succ k ih =>
      rintro ⟨i, hi, hne⟩
      by_cases hk : ∃ i, i ≤ k ∧ fS a b 0 i ≠ fS a b c i
      · obtain ⟨j, h1, h2⟩ := ih hk
        exact ⟨j, by omega, h2⟩
      · refine ⟨k, by omega, fun j hj => ?_, ?_⟩
        · rcases Nat.decEq (fS a b 0 j) (fS a b c j) with h | h
          · exact absurd ⟨j, hj, h⟩ hk
          · exact h
        · by_cases hik : i ≤ k
          · exact absurd ⟨i, hik, hne⟩ hk
          · rw [show k + 1 = i by omega]; exact hne
  obtain ⟨i, hi, hall, hne⟩ := first n hx
  have s0 := fS_step hb ha 0 i
  have sc := fS_step hb ha c i
  have hm := hmono (i + 1)
  have hi' := hall i (Nat.le_refl i)
  have l0 : lS a b 0 i = 97 := by unfold lS; rw [if_pos (by omega)]
  have lc : lS a b c i = 98 := by unfold lS; rw [if_neg (by omega)]
  have pre : stepL a b c i = stepL a b 0 i := by
    rw [stepL_map, stepL_map]
    refine List.map_congr_left fun j hj => ?_
    rw [List.mem_range] at hj
    unfold lS
    rw [hall j (by omega), hall (j + 1) (by omega)]
  have cut : ∀ c', stepL a b c' n = stepL a b c' i ++ lS a b c' i :: (stepL a b c' n).drop (i + 1) := fun c' => by
    have h1 : (stepL a b c' n).take (i + 1) = stepL a b c' i ++ [lS a b c' i] := by rw [stepL_take (by omega), stepL_succ]
    conv => lhs; rw [← List.take_append_drop (i + 1) (stepL a b c' n), h1]
    rw [List.append_assoc]; rfl
  rw [cut c, cut 0, l0, lc, pre, bl_pre, Bool.false_or, beq_eq_false_iff_ne]
  intro h
  have := List.append_cancel_left h
  injection this with h1 _
  cases h1
theorem fS_turn {q n : Nat} (hn : 1 ≤ n) (k j : Nat) : fS q n 0 (k + j) = fS q n ((k * q) % n) j + (k * q) / n := by
  unfold fS
  have e := Nat.div_add_mod (k * q) n
  rw [show (k + j) * q + 0 = (j * q + (k * q) % n) + n * ((k * q) / n) by rw [Nat.add_mul]; omega, Nat.add_mul_div_left _ _ hn]
theorem turn_step {q n k : Nat} (hn : 1 ≤ n) (hk : k ≤ n) : (stepL q n 0 n).drop k ++ (stepL q n 0 n).take k = stepL q n ((k * q) % n) n := by
  have hl : ∀ c j, fS q n c (j + n) = fS q n c j + q := fun c j => by
    unfold fS
    rw [show (j + n) * q + c = j * q + c + n * q by rw [Nat.add_mul]; omega, Nat.add_mul_div_left _ _ hn]
  refine List.ext_getElem? fun i => ?_
  by_cases hi : i < n
  · rw [stepL_get hi]
    by_cases h1 : i < n - k
    · rw [List.getElem?_append_left (by rw [List.length_drop, stepL_len]; exact h1), List.getElem?_drop, stepL_get (by omega)]
      unfold lS
      have e1 := fS_turn (q := q) hn k i
      have e2 := fS_turn (q := q) hn k (i + 1)
      rw [← Nat.add_assoc] at e2
      rw [e1, e2]
      by_cases h : fS q n ((k * q) % n) (i + 1) = fS q n ((k * q) % n) i
      · rw [if_pos (by omega), if_pos h]
      · rw [if_neg (by omega), if_neg h]
    · rw [List.getElem?_append_right (by rw [List.length_drop, stepL_len]; omega), List.length_drop, stepL_len, List.getElem?_take, if_pos (by omega), stepL_get (by omega)]
      unfold lS
      have e1 := fS_turn (q := q) hn k i
      have e2 := fS_turn (q := q) hn k (i + 1)
      have g1 := hl 0 (i - (n - k))
      have g2 := hl 0 (i - (n - k) + 1)
      rw [show i - (n - k) + n = k + i by omega] at g1
      rw [show i - (n - k) + 1 + n = k + (i + 1) by omega] at g2
      by_cases h : fS q n ((k * q) % n) (i + 1) = fS q n ((k * q) % n) i
      · rw [if_pos (by omega), if_pos h]
      · rw [if_neg (by omega), if_neg h]
  · rw [List.getElem?_eq_none (by rw [List.length_append, List.length_drop, List.length_take, stepL_len]; omega), List.getElem?_eq_none (by rw [stepL_len]; omega)]
/-- A word of a slope is less than its turned words. -/
theorem slope_lyndon {p q : Nat} (hg : Nat.gcd p q = 1) {k : Nat} (h1 : 1 ≤ k) (h2 : k < p + q) : (Op.bytesLess ((slopeL p q).drop k ++ (slopeL p q).take k) (slopeL p q) || (slopeL p q).drop k ++ (slopeL p q).take k == slopeL p q) = false := by
  have hn : 1 ≤ p + q := by omega
  have hqn : Nat.gcd q (p + q) = 1 := by rw [Nat.gcd_add_self_right, Nat.gcd_comm]; exact hg
  unfold slopeL
  rw [turn_step hn (by omega)]
  have hc := Nat.mod_lt (k * q) hn
  have hc1 : 1 ≤ (k * q) % (p + q) := by
    rcases Nat.eq_zero_or_pos ((k * q) % (p + q)) with h | h
    · exfalso
      have hd : p + q ∣ k * q := Nat.dvd_of_mod_eq_zero h
      have hd2 : p + q ∣ k := Nat.Coprime.dvd_of_dvd_mul_right (by rw [Nat.Coprime, Nat.gcd_comm]; exact hqn) hd
      have := Nat.le_of_dvd (by omega) hd2
      omega
    · exact h
  generalize (k * q) % (p + q) = c at *
  refine step_less hn (by omega) hc ?_
  obtain ⟨i, T, hi, hT⟩ := reach (c := c) hn hqn
  refine ⟨i, by omega, ?_⟩
  have e1 : fS q (p + q) c i = T := by
    unfold fS; rw [hT]; exact Nat.mul_div_cancel_left T hn
  have e2 : fS q (p + q) 0 i < T := by
    unfold fS
    rw [Nat.div_lt_iff_lt_mul hn, Nat.mul_comm T]
    omega
  omega
/-- A central word is a palindrome. -/
theorem central_pal {p q : Nat} (hg : Nat.gcd p q = 1) (hp : 1 ≤ p) (hq : 1 ≤ q) : palB ((slopeL p q).take (p + q - 1)).tail = true := by
  have hn : 1 ≤ p + q := by omega
  have hqn : Nat.gcd q (p + q) = 1 := by rw [Nat.gcd_add_self_right, Nat.gcd_comm]; exact hg
  have hsum : ∀ i, 1 ≤ i → i < p + q → fS q (p + q) 0 i + fS q (p + q) 0 (p + q - i) + 1 = q := by
    intro i h1 h2
    have hr : 1 ≤ (i * q) % (p + q) := by
      rcases Nat.eq_zero_or_pos ((i * q) % (p + q)) with h | h
      · exfalso
        have hd : p + q ∣ i * q := Nat.dvd_of_mod_eq_zero h
        have hd2 : p + q ∣ i := Nat.Coprime.dvd_of_dvd_mul_right (by rw [Nat.Coprime, Nat.gcd_comm]; exact hqn) hd
        have := Nat.le_of_dvd (by omega) hd2
        omega
      · exact h
    have hm := Nat.mod_lt (i * q) hn
    have hd := Nat.div_add_mod (i * q) (p + q)
    have hlt : (i * q) / (p + q) < q := by rw [Nat.div_lt_iff_lt_mul hn, Nat.mul_comm q]; exact Nat.mul_lt_mul_of_pos_right h2 (by omega)
    unfold fS
    simp only [Nat.add_zero]
    obtain ⟨n, hnn⟩ : ∃ n, p + q = n := ⟨_, rfl⟩
    rw [hnn] at hr hm hd hlt h2 hn ⊢
    obtain ⟨D, hD⟩ : ∃ D, (i * q) / n = D := ⟨_, rfl⟩
    obtain ⟨r, hrr⟩ : ∃ r, (i * q) % n = r := ⟨_, rfl⟩
    rw [hD] at hd hlt ⊢
    rw [hrr] at hr hm hd
    obtain ⟨d, hd2⟩ : ∃ d, q = D + 1 + d := ⟨q - 1 - D, by omega⟩
    have h5 : n * q = n * D + n + n * d := by
      have := congrArg (n * ·) hd2
      simp only [Nat.mul_add, Nat.mul_one] at this
      exact this
    have h3 : (n - i) * q = n * d + (n - r) := by
      rw [Nat.sub_mul]; omega
    rw [h3, Nat.mul_add_div hn, Nat.div_eq_of_lt (by omega)]
    omega
  have hlet : ∀ i, 1 ≤ i → i + 1 < p + q → lS q (p + q) 0 (p + q - 1 - i) = lS q (p + q) 0 i := by
    intro i h1 h2
    have e1 := hsum i h1 (by omega)
    have e2 := hsum (i + 1) (by omega) h2
    unfold lS
    rw [show p + q - 1 - i + 1 = p + q - i by omega]
    rw [show p + q - (i + 1) = p + q - 1 - i by omega] at e2
    by_cases h : fS q (p + q) 0 (i + 1) = fS q (p + q) 0 i
    · rw [if_pos h, if_pos (by omega)]
    · rw [if_neg h, if_neg (by omega)]
  have hget : ∀ i, ((slopeL p q).take (p + q - 1)).tail[i]? = if i + 2 < p + q then some (lS q (p + q) 0 (i + 1)) else none := by
    intro i
    unfold slopeL
    rw [List.getElem?_tail, stepL_take (by omega)]
    split
    · rw [stepL_get (by omega)]
    · rw [List.getElem?_eq_none (by rw [stepL_len]; omega)]
  have hln : ((slopeL p q).take (p + q - 1)).tail.length = p + q - 2 := by
    rw [List.length_tail, List.length_take]
    unfold slopeL
    rw [stepL_len]
    omega
  unfold palB
  rw [beq_iff_eq]
  refine List.ext_getElem? fun i => ?_
  by_cases hi : i < p + q - 2
  · rw [List.getElem?_reverse (by rw [hln]; exact hi), hln, hget, hget, if_pos (by omega), if_pos (by omega)]
    have := hlet (i + 1) (by omega) (by omega)
    rw [show p + q - 1 - (i + 1) = p + q - 2 - 1 - i + 1 by omega] at this
    rw [this]
  · rw [List.getElem?_eq_none (by rw [hln]; omega), List.getElem?_eq_none (by rw [List.length_reverse, hln]; omega)]
theorem central_len {p q : Nat} (hp : 1 ≤ p) (hq : 1 ≤ q) : ((slopeL p q).take (p + q - 1)).tail.length = p + q - 2 := by
  rw [List.length_tail, List.length_take]
  unfold slopeL
  rw [stepL_len]
  omega
/-- Two numbers from a path. -/
def backN : List UInt8 → Nat × Nat
  | [] => (1, 1)
  | u :: l => if u = 97 then ((backN l).1, (backN l).1 + (backN l).2) else ((backN l).1 + (backN l).2, (backN l).2)
theorem back_pth : ∀ f p q : Nat, p + q ≤ f → 1 ≤ p → 1 ≤ q → Nat.gcd p q = 1 → backN (pthF f p q) = (p, q)
  | 0, p, q, h, hp, hq, _ => by omega
  | f + 1, p, q, h, hp, hq, hg => by
    unfold pthF
    by_cases h1 : p = q
    · rw [if_pos h1]
      subst h1
      rw [Nat.gcd_self] at hg
      subst hg; rfl
    · rw [if_neg h1]
      by_cases h2 : q < p
      · rw [if_pos h2]
        have hg2 : Nat.gcd (p - q) q = 1 := by rw [Nat.gcd_sub_self_left (by omega)]; exact hg
        have ih := back_pth f (p - q) q (by omega) (by omega) hq hg2
        rw [backN, if_neg (by decide), ih]
        show ((p - q) + q, q) = (p, q)
        rw [Nat.sub_add_cancel (by omega)]
      · rw [if_neg h2]
        have hg2 : Nat.gcd p (q - p) = 1 := by rw [Nat.gcd_sub_self_right (by omega)]; exact hg
        have ih := back_pth f p (q - p) (by omega) hp (by omega) hg2
        rw [backN, if_pos rfl, ih]
        show (p, p + (q - p)) = (p, q)
        rw [Nat.add_sub_cancel' (by omega)]
theorem pth_ab : ∀ f p q : Nat, ∀ u ∈ pthF f p q, u = 97 ∨ u = 98
  | 0, p, q, u, h => by cases h
  | f + 1, p, q, u, h => by
    unfold pthF at h
    split at h
    · cases h
    · split at h
      · rcases List.mem_cons.1 h with rfl | h
        · exact .inr rfl
        · exact pth_ab f _ _ u h
      · rcases List.mem_cons.1 h with rfl | h
        · exact .inl rfl
        · exact pth_ab f _ _ u h
theorem ab_isAB {w : List UInt8} (h : AB w) (hl : w.length ≤ 60) : isAB w = true := by
  unfold isAB isWord fewB
  rw [decide_eq_true hl, Bool.true_and, Bool.and_eq_true, List.all_eq_true, List.all_eq_true]
  constructor
  · intro u hu
    rcases h u hu with rfl | rfl <;> rfl
  · intro u hu
    rcases h u hu with rfl | rfl <;> rfl
theorem cnt_nB (l : List UInt8) : cnt l 1 = (nB l : Nat) := rfl
theorem cnt_nA (l : List UInt8) : cnt l 0 = (nA l : Nat) := rfl
/-- A word of two numbers has just so many letters. -/
theorem slope_nums {p q : Nat} (hn : 1 ≤ p + q) : nA (slopeL p q) = p ∧ nB (slopeL p q) = q := by
  have h1 := cnt_step (a := q) (b := p + q) hn (by omega) 0 (p + q)
  have h2 := (cnt_ab (stepL_ab q (p + q) 0 (p + q))).1
  rw [stepL_len] at h2
  have e1 : fS q (p + q) 0 0 = 0 := fS_zero (by omega)
  have e2 : fS q (p + q) 0 (p + q) = q := by
    unfold fS; rw [Nat.add_zero]; exact Nat.mul_div_cancel_left q hn
  rw [e1, e2] at h1
  rw [cnt_nB] at h1 h2
  rw [cnt_nA] at h2
  unfold slopeL
  omega
theorem slope_back {p q : Nat} (hg : Nat.gcd p q = 1) (hl : p + q ≤ 60) : isAB (slopeL p q) = true ∧ isSlope (slopeL p q) = true ∧ nA (slopeL p q) = p ∧ nB (slopeL p q) = q := by
  obtain ⟨h1, h2⟩ := slope_nums (pos_of_gcd hg)
  refine ⟨ab_isAB (stepL_ab _ _ _ _) (by unfold slopeL; rw [stepL_len]; exact hl), ?_, h1, h2⟩
  unfold isSlope
  rw [h1, h2, decide_eq_true hg, beq_self_eq_true]; rfl
theorem isAB_ab {w : List UInt8} (h : isAB w = true) : AB w := by
  intro u hu
  unfold isAB isWord fewB at h
  simp only [Bool.and_eq_true, List.all_eq_true, decide_eq_true_eq] at h
  have h1 := isL_range (h.1.2 u hu)
  have h2 := h.2 u hu
  have : u.toNat = 97 ∨ u.toNat = 98 := by omega
  rcases this with h | h
  · exact .inl (UInt8.toNat_inj.1 h)
  · exact .inr (UInt8.toNat_inj.1 h)
theorem ab_sum {w : List UInt8} (h : AB w) : nA w + nB w = w.length := by
  have h2 := (cnt_ab h).1
  rw [cnt_nA, cnt_nB] at h2
  omega
theorem sC_ok {w : List UInt8} (h : sC w = 0) : isAB w = true ∧ isSlope w = true := by
  unfold sC at h
  split at h
  · rename_i h1
    split at h
    · rename_i h2; exact ⟨h1, h2⟩
    · cases h
  · cases h
/-- The numbers of a word lead back to it. -/
theorem word_back {w : List UInt8} (h : sC w = 0) : wosC (sP w) (sQ w) = 0 ∧ wosW (sP w) (sQ w) = w := by
  obtain ⟨h1, h2⟩ := sC_ok h
  have hl := isAB_len h1
  have hs := ab_sum (isAB_ab h1)
  have e1 : sP w = nA w := by unfold sP; rw [if_pos h1, if_pos h2]
  have e2 : sQ w = nB w := by unfold sQ; rw [if_pos h1, if_pos h2]
  unfold isSlope at h2
  rw [Bool.and_eq_true, decide_eq_true_eq, beq_iff_eq] at h2
  have hok := slopeOk_n w hl
  rw [decide_eq_true h2.1] at hok
  have hc : wosC (nA w : Nat) (nB w : Nat) = 0 := by
    unfold wosC
    rw [if_pos hok, if_neg (by omega)]
  rw [e1, e2]
  refine ⟨hc, ?_⟩
  unfold wosW
  rw [if_pos hc, Int.toNat_natCast, Int.toNat_natCast]
  exact h2.2
theorem kC_ok {w : List UInt8} (h : kC w = 0) : kA w ++ kB w = w ∧ sC (kA w) = 0 ∧ sC (kB w) = 0 := by
  unfold kC at h
  split at h
  · rename_i h1
    cases hi : cutI w with
    | none => rw [hi] at h; cases h
    | some i =>
      have e1 : kA w = w.take i := by unfold kA; rw [if_pos h1, hi]
      have e2 : kB w = w.drop i := by unfold kB; rw [if_pos h1, hi]
      unfold cutI at hi
      split at hi
      · have hp := List.find?_some hi
        unfold cutB at hp
        simp only [Bool.and_eq_true] at hp
        rw [e1, e2]
        refine ⟨List.take_append_drop i w, ?_, ?_⟩
        · unfold sC; rw [if_pos (isAB_sub h1 (List.take_sublist i w)), if_pos hp.2.1]
        · unfold sC; rw [if_pos (isAB_sub h1 (List.drop_sublist i w)), if_pos hp.2.2]
      · cases hi
  · cases h
theorem kA_len (w : List UInt8) : (kA w).length ≤ 60 ∧ (kB w).length ≤ 60 := by
  unfold kA kB
  by_cases h1 : isAB w = true
  · have := isAB_len h1
    rw [if_pos h1, if_pos h1]
    constructor
    · split
      · rw [List.length_take]; omega
      · exact Nat.zero_le _
    · split
      · rw [List.length_drop]; omega
      · exact Nat.zero_le _
  · rw [if_neg h1, if_neg h1]; exact ⟨Nat.zero_le _, Nat.zero_le _⟩
end Go.Proofs.YticejlplbibegaaGreatDoor

/- Merged: C87 C88. -/
import Derived.Test.YticejlplbibegaaGreatDoorC13
import Derived.Test.YticejlplbibegaaGreatDoorE11
import Derived.Lib.SlTrimSet
import Derived.Shelf.Strings.SlTrimAscii
/-! Contracts: words of slopes, of both. -/
namespace Go.Proofs.YticejlplbibegaaGreatDoor
open Go Go.RowKit
set_option linter.unusedSimpArgs false
set_option linter.unusedVariables false

/-- A word of the letters a and b alone. -/
def isAB (l : List UInt8) : Bool := isWord l && fewB l 2
theorem isAB_len {l : List UInt8} (h : isAB l = true) : l.length ≤ 60 := isWord_len (Bool.and_eq_true_iff.1 h).1
theorem all_of_dropWhile (p : UInt8 → Bool) : ∀ l : List UInt8, (∀ x ∈ l.dropWhile p, p x = true) → ∀ x ∈ l, p x = true
  | [], _ => by simp
  | b :: l, h => by
    cases hb : p b
    · rw [List.dropWhile_cons, if_neg (by rw [hb]; decide)] at h
      have := h b (by simp)
      rw [hb] at this; cases this
    · rw [List.dropWhile_cons, if_pos hb] at h
      intro x hx
      rcases List.mem_cons.1 hx with rfl | hx
      · exact hb
      · exact all_of_dropWhile p l h x hx
theorem trim_nil (l cs : List UInt8) : Lib.trimS l cs = [] ↔ ∀ x ∈ l, cs.contains x = true := by
  have dn : ∀ (p : UInt8 → Bool) (m : List UInt8), m.dropWhile p = [] ↔ ∀ x ∈ m, p x = true := fun p m => by
    induction m with
    | nil => simp
    | cons b m ih =>
      rw [List.dropWhile_cons]
      by_cases hb : p b = true
      · rw [if_pos hb, ih]; simp [hb]
      · rw [if_neg hb]
        refine ⟨fun h => (by cases h), fun h => absurd (h b (by simp)) hb⟩
  unfold Lib.trimS Lib.trimLeftS Lib.trimRightS
  rw [dn]
  constructor
  · intro h x hx
    refine all_of_dropWhile _ l.reverse (fun y hy => h y (List.mem_reverse.2 hy)) x (List.mem_reverse.2 hx)
  · intro h x hx
    rw [List.mem_reverse] at hx
    exact h x (List.mem_reverse.1 ((List.dropWhile_sublist _).subset hx))
theorem trim_ab (l : List UInt8) (hl : l.all isL = true) : Lib.trimS l [97, 98] = [] ↔ fewB l 2 = true := by
  rw [trim_nil]
  unfold fewB
  rw [List.all_eq_true]
  refine forall_congr' fun x => forall_congr' fun hx => ?_
  have hr := isL_range (List.all_eq_true.1 hl x hx)
  have e : ([97, 98] : List UInt8).contains x = (x == 97 || x == 98) := by rw [List.contains_cons, List.contains_cons, List.contains_nil, Bool.or_false]
  rw [e, Bool.or_eq_true, beq_iff_eq, beq_iff_eq, decide_eq_true_eq]
  constructor
  · rintro (rfl | rfl) <;> decide
  · intro h
    have : x.toNat = 97 ∨ x.toNat = 98 := by omega
    rcases this with h | h
    · exact .inl (UInt8.toNat_inj.1 h)
    · exact .inr (UInt8.toNat_inj.1 h)
theorem trimAB_does (l : List UInt8) (M : Mem) (R : Value → Mem → Prop) (hl : l.length ≤ 1099511627776) (h : R (str (Lib.trimS l [97, 98])) M) : Does Tryz.prog 138 [str l, str [97, 98]] M R := by
  refine does_below (str (Lib.trimS l [97, 98])) ⟨_, Tryz.func138, by kernel_rfl, by kernel_rfl⟩ (fun w hw => ?_) h
  exact Any.strings_Trim_laid Tryz.lays160 (by kernel_rfl) ⟨⟨l⟩⟩ ⟨⟨[97, 98]⟩⟩ w (by show l.length ≤ _; omega) (by decide) (ascii_of_all (by decide))
theorem isTwo_does (l : List UInt8) (M : Mem) (R : Value → Mem → Prop) (hl : l.length ≤ 1099511627776) (h : R (.bool (isAB l)) M) : Does Tryz.prog 92 [str l] M R := by
  unfold isAB at h
  refine does_fn tab_ok Tryz.func92 rfl (by kernel_rfl) (by kernel_rfl) Tryz.ntmps92 Tryz.results92 rfl ?_
  simp (disch := omega)
  refine isWord_does l _ _ hl ?_
  cases hw : isWord l
  · rw [hw, Bool.false_and] at h
    simp (disch := omega)
    exact ret_of h
  · rw [hw, Bool.true_and] at h
    have ht := trim_ab l (isWord_all hw)
    simp (disch := omega)
    refine trimAB_does l _ _ hl ?_
    cases hf : fewB l 2
    · rw [hf] at h ht
      have ht' : ¬ Lib.trimS l [97, 98] = [] := fun e => by have := ht.1 e; cases this
      have ht2 : (Lib.trimS l [97, 98]).isEmpty = false := by cases e : Lib.trimS l [97, 98] with | nil => exact absurd e ht' | cons a b => rfl
      simp (disch := omega) [ht', ht2]
      exact ret_of h
    · rw [hf] at h ht
      have ht' : Lib.trimS l [97, 98] = [] := ht.2 rfl
      simp (disch := omega) [ht']
      exact ret_of h
theorem l08Is_does (l : List UInt8) (M : Mem) (R : Value → Mem → Prop) (hl : l.length ≤ 1099511627776) (h : R (.bool (isAB l)) M) : Does Tryz.prog 94 [str l] M R := by
  unfold isAB at h
  refine does_fn tab_ok Tryz.func94 rfl (by kernel_rfl) (by kernel_rfl) Tryz.ntmps94 Tryz.results94 rfl ?_
  simp (disch := omega)
  refine l01Is_does l _ _ hl ?_
  cases hw : isWord l
  · rw [hw, Bool.false_and] at h
    simp (disch := omega)
    exact ret_of h
  · rw [hw, Bool.true_and] at h
    simp (disch := omega)
    refine l06Few_does l 2 _ _ hl (isWord_all hw) (by omega) ?_
    simp (disch := omega)
    exact ret_of h
theorem divisor_does (a b : Nat) (M : Mem) (R : Value → Mem → Prop) (ha : a ≤ 1099511627776) (hb : b ≤ 1099511627776) (h : R (.int .i64 (Nat.gcd a b : Nat)) M) : Does Tryz.prog 140 [.int .i64 a, .int .i64 b] M R := by
  refine does_fn tab_ok Tryz.func140 rfl (by kernel_rfl) (by kernel_rfl) Tryz.ntmps140 Tryz.results140 rfl ?_
  simp (disch := omega)
  refine loop_to tab_ok [0, 1, 5, 6, 7, 8, 9, 10] (fun x : Nat × Nat => [(0, .int .i64 (x.1 : Nat)), (1, .int .i64 (x.2 : Nat))]) (fun x M' => M = M' ∧ Nat.gcd x.1 x.2 = Nat.gcd a b ∧ x.1 ≤ 1099511627776 ∧ x.2 ≤ 1099511627776) (fun x => x.2) (a, b) (by kernel_rfl) (by simp (disch := omega)) ⟨rfl, rfl, ha, hb⟩ ?_
  rintro ⟨x, y⟩ M' g ⟨rfl, hg, hx, hy⟩
  simp only at hg hx hy
  by_cases hy0 : y = 0
  · subst hy0
    rw [Nat.gcd_zero_right] at hg
    rw [← hg] at h
    simp (disch := omega)
    exact ret_of h
  · obtain ⟨r, hr⟩ : ∃ r, r = x % y := ⟨_, rfl⟩
    have hlt := Nat.mod_lt x (Nat.pos_of_ne_zero hy0)
    have hq : (x : Int).tmod (y : Int) = (r : Int) := by rw [hr]; rfl
    have hy1 : ¬ (y : Int) = 0 := by omega
    simp (disch := omega) [hy1]
    refine draw_to tab_ok (by kernel_rfl) (by kernel_rfl) (by rfl) ?_
    simp (disch := omega) [hy1, hq]
    refine Rnd.mk' (y, r) (by simp only; omega) (by (repeat (first | exact km | refine kp rfl ?_ | refine km' rfl ?_))) (by simp (disch := omega)) ⟨rfl, ?_, hy, by simp only; omega⟩
    simp only
    rw [hr, ← hg, Nat.gcd_comm y, ← Nat.gcd_rec, Nat.gcd_comm]
theorem l02Gcd_does (a b : Nat) (M : Mem) (R : Value → Mem → Prop) (ha : a ≤ 1099511627776) (hb : b ≤ 1099511627776) (h : R (.int .i64 (Nat.gcd a b : Nat)) M) : Does Tryz.prog 118 [.int .i64 a, .int .i64 b] M R := by
  refine does_fn tab_ok Tryz.func118 rfl (by kernel_rfl) (by kernel_rfl) Tryz.ntmps118 Tryz.results118 rfl ?_
  simp (disch := omega)
  refine loop_to tab_ok [0, 1, 5, 6, 7, 8, 9, 10, 11, 12] (fun x : Nat × Nat => [(0, .int .i64 (x.1 : Nat)), (1, .int .i64 (x.2 : Nat))]) (fun x M' => M = M' ∧ Nat.gcd x.1 x.2 = Nat.gcd a b ∧ x.1 ≤ 1099511627776 ∧ x.2 ≤ 1099511627776) (fun x => x.2) (a, b) (by kernel_rfl) (by simp (disch := omega)) ⟨rfl, rfl, ha, hb⟩ ?_
  rintro ⟨x, y⟩ M' g ⟨rfl, hg, hx, hy⟩
  simp only at hg hx hy
  by_cases hy0 : y = 0
  · subst hy0
    rw [Nat.gcd_zero_right] at hg
    rw [← hg] at h
    simp (disch := omega)
    exact ret_of h
  · obtain ⟨r, hr⟩ : ∃ r, r = x % y := ⟨_, rfl⟩
    have hlt := Nat.mod_lt x (Nat.pos_of_ne_zero hy0)
    have hq : (x : Int).tmod (y : Int) = (r : Int) := by rw [hr]; rfl
    have hy1 : ¬ (y : Int) = 0 := by omega
    have hy2 : (0 : Int) < y := by omega
    simp (disch := omega) [hy1, hy2, hq]
    refine Rnd.mk' (y, r) (by simp only; omega) (by (repeat (first | exact km | refine kp rfl ?_ | refine km' rfl ?_))) (by simp (disch := omega)) ⟨rfl, ?_, hy, by simp only; omega⟩
    simp only
    rw [hr, ← hg, Nat.gcd_comm y, ← Nat.gcd_rec, Nat.gcd_comm]
/-- Two numbers of a slope, each of at least one number. -/
def slopeOk (p q least : Int) : Bool := decide (least ≤ p ∧ p ≤ 1000) && (decide (least ≤ q ∧ q ≤ 1000) && decide (Nat.gcd p.toNat q.toNat = 1))
theorem areSlope_does (p q least : Int) (M : Mem) (R : Value → Mem → Prop) (hle : 0 ≤ least) (h : R (.bool (slopeOk p q least)) M) : Does Tryz.prog 96 [.int .i64 p, .int .i64 q, .int .i64 least] M R := by
  unfold slopeOk at h
  refine does_fn tab_ok Tryz.func96 rfl (by kernel_rfl) (by kernel_rfl) Tryz.ntmps96 Tryz.results96 rfl ?_
  simp (disch := omega)
  refine within_does _ _ _ _ _ ?_
  by_cases h1 : least ≤ p ∧ p ≤ 1000
  · rw [decide_eq_true h1] at h ⊢
    simp (disch := omega)
    refine within_does _ _ _ _ _ ?_
    by_cases h2 : least ≤ q ∧ q ≤ 1000
    · rw [decide_eq_true h2] at h ⊢
      obtain ⟨a, rfl⟩ : ∃ a : Nat, p = a := ⟨p.toNat, by omega⟩
      obtain ⟨b, rfl⟩ : ∃ b : Nat, q = b := ⟨q.toNat, by omega⟩
      rw [Int.toNat_natCast, Int.toNat_natCast] at h
      simp (disch := omega)
      refine divisor_does a b _ _ (by omega) (by omega) ?_
      by_cases h3 : Nat.gcd a b = 1
      · rw [decide_eq_true h3] at h
        rw [h3]
        simp (disch := omega)
        exact ret_of h
      · rw [decide_eq_false h3] at h
        have h4 : ¬ ((Nat.gcd a b : Nat) : Int) = 1 := by omega
        have h5 : (((Nat.gcd a b : Nat) : Int) == 1) = false := beq_eq_false_iff_ne.2 h4
        generalize Nat.gcd a b = G at *
        simp (disch := omega) [h4, h5]
        exact ret_of h
    · rw [decide_eq_false h2] at h ⊢
      simp (disch := omega)
      exact ret_of h
  · rw [decide_eq_false h1] at h ⊢
    simp (disch := omega)
    refine ret_of h
/-- A stepped word. -/
def stepL (a b c : Nat) : Nat → List UInt8
  | 0 => []
  | n + 1 => stepL a b c n ++ [if ((n + 1) * a + c) / b = (n * a + c) / b then 97 else 98]
theorem stepL_len (a b c : Nat) : ∀ n, (stepL a b c n).length = n
  | 0 => rfl
  | n + 1 => by rw [stepL, List.length_append, stepL_len a b c n]; rfl
/-- The word of two numbers. -/
def slopeL (p q : Nat) : List UInt8 := stepL q (p + q) 0 (p + q)
theorem stepped_does (a b c n : Nat) (M : Mem) (R : Value → Mem → Prop) (ha : a ≤ 3000) (hb : 1 ≤ b) (hb' : b ≤ 3000) (hc : c ≤ 3000) (hn : n ≤ 3000) (h : R (str (stepL a b c n)) M) : Does Tryz.prog 112 [.int .i64 a, .int .i64 b, .int .i64 c, .int .i64 n] M R := by
  refine does_fn tab_ok Tryz.func112 rfl (by kernel_rfl) (by kernel_rfl) Tryz.ntmps112 Tryz.results112 rfl ?_
  simp (disch := omega)
  refine loop_to tab_ok [9, 10, 12, 13, 14, 15, 16, 17, 18, 19, 20, 21, 22, 23, 24, 25, 26, 27, 28, 29, 30, 31, 32, 33, 34, 35] (fun i : Nat => [(12, .int .i64 i), (9, str (stepL a b c i))]) (fun i M' => M = M' ∧ i ≤ n) (fun i => n - i) 0 (by kernel_rfl) (by simp (disch := omega) [stepL]) ⟨rfl, by omega⟩ ?_
  rintro i M' g ⟨rfl, hi⟩
  have hln := stepL_len a b c i
  by_cases hlt : i < n
  · obtain ⟨s, hs⟩ : ∃ s, s = i * a := ⟨_, rfl⟩
    obtain ⟨t, ht⟩ : ∃ t, t = (i + 1) * a := ⟨_, rfl⟩
    have hsb : s ≤ 9000000 := by rw [hs]; exact Nat.le_trans (Nat.mul_le_mul (by omega : i ≤ 3000) ha) (by decide)
    have htb : t ≤ 9003000 := by rw [ht]; exact Nat.le_trans (Nat.mul_le_mul (by omega : i + 1 ≤ 3001) ha) (by decide)
    have e1 : (i : Int) * (a : Int) = s := by rw [hs]; exact (Int.natCast_mul _ _).symm
    have e2 : ((i : Int) + 1) * (a : Int) = t := by rw [ht]; push_cast; rfl
    obtain ⟨x, hx⟩ : ∃ x, x = (t + c) / b := ⟨_, rfl⟩
    obtain ⟨y, hy⟩ : ∃ y, y = (s + c) / b := ⟨_, rfl⟩
    have hxb : x ≤ t + c := by rw [hx]; exact Nat.div_le_self _ _
    have hyb : y ≤ s + c := by rw [hy]; exact Nat.div_le_self _ _
    have e3 : ((t : Int) + c).tdiv b = x := by rw [hx]; rfl
    have e4 : ((s : Int) + c).tdiv b = y := by rw [hy]; rfl
    have hb0 : ¬ (b : Int) = 0 := by omega
    have hrec : stepL a b c (i + 1) = stepL a b c i ++ [if x = y then 97 else 98] := by rw [stepL, ← ht, ← hs, ← hx, ← hy]
    simp (disch := omega)
    refine draw_to tab_ok (by kernel_rfl) (by kernel_rfl) (by rfl) ?_
    by_cases hxy : x = y
    · rw [if_pos hxy] at hrec
      have hxy' : (x : Int) = y := by omega
      simp (disch := omega) [e1, e2, e3, e4, hb0, hxy']
      refine Rnd.mk' (i + 1) (by omega) (by (repeat (first | exact km | refine kp rfl ?_ | refine km' rfl ?_))) (by simp (disch := omega) [hrec]) ⟨rfl, by omega⟩
    · rw [if_neg hxy] at hrec
      have hxy' : ¬ (x : Int) = y := by omega
      simp (disch := omega) [e1, e2, e3, e4, hb0, hxy']
      refine Rnd.mk' (i + 1) (by omega) (by (repeat (first | exact km | refine kp rfl ?_ | refine km' rfl ?_))) (by simp (disch := omega) [hrec]) ⟨rfl, by omega⟩
  · have hi' : i = n := by omega
    subst hi'
    simp (disch := omega)
    exact ret_of h
theorem l08Word_does (p q : Nat) (M : Mem) (R : Value → Mem → Prop) (hp : p ≤ 1000) (hq : q ≤ 1000) (h : R (str (slopeL p q)) M) : Does Tryz.prog 90 [.int .i64 p, .int .i64 q] M R := by
  unfold slopeL at h
  refine does_fn tab_ok Tryz.func90 rfl (by kernel_rfl) (by kernel_rfl) Tryz.ntmps90 Tryz.results90 rfl ?_
  simp (disch := omega)
  obtain ⟨n, hn⟩ : ∃ n, n = p + q := ⟨_, rfl⟩
  have hnI : (p : Int) + q = n := by omega
  rw [← hn] at h
  simp (disch := omega) [hnI]
  refine loop_to tab_ok [5, 7, 11, 12, 13, 14, 15, 16, 17, 18, 19, 20, 21, 22, 23, 24, 25, 26, 27, 28, 29, 30, 31] (fun i : Nat => [(7, .int .i64 i), (5, str (stepL q n 0 i))]) (fun i M' => M = M' ∧ i ≤ n) (fun i => n - i) 0 (by kernel_rfl) (by simp (disch := omega) [stepL]) ⟨rfl, by omega⟩ ?_
  rintro i M' g ⟨rfl, hi⟩
  have hln := stepL_len q n 0 i
  by_cases hlt : i < n
  · obtain ⟨s, hs⟩ : ∃ s, s = i * q := ⟨_, rfl⟩
    obtain ⟨t, ht⟩ : ∃ t, t = (i + 1) * q := ⟨_, rfl⟩
    have hsb : s ≤ 9000000 := by rw [hs]; exact Nat.le_trans (Nat.mul_le_mul (by omega : i ≤ 3000) (by omega : q ≤ 3000)) (by decide)
    have htb : t ≤ 9003000 := by rw [ht]; exact Nat.le_trans (Nat.mul_le_mul (by omega : i + 1 ≤ 3001) (by omega : q ≤ 3000)) (by decide)
    have e1 : (i : Int) * (q : Int) = s := by rw [hs]; exact (Int.natCast_mul _ _).symm
    have e2 : ((i : Int) + 1) * (q : Int) = t := by rw [ht]; push_cast; rfl
    obtain ⟨x, hx⟩ : ∃ x, x = t / n := ⟨_, rfl⟩
    obtain ⟨y, hy⟩ : ∃ y, y = s / n := ⟨_, rfl⟩
    have hxb : x ≤ t := by rw [hx]; exact Nat.div_le_self _ _
    have hyb : y ≤ s := by rw [hy]; exact Nat.div_le_self _ _
    have e3 : (t : Int).tdiv n = x := by rw [hx]; rfl
    have e4 : (s : Int).tdiv n = y := by rw [hy]; rfl
    have hb0 : ¬ (n : Int) = 0 := by omega
    have hrec : stepL q n 0 (i + 1) = stepL q n 0 i ++ [if x = y then 97 else 98] := by rw [stepL, ← ht, ← hs, Nat.add_zero, Nat.add_zero, ← hx, ← hy]
    simp (disch := omega)
    refine draw_to tab_ok (by kernel_rfl) (by kernel_rfl) (by rfl) ?_
    by_cases hxy : x = y
    · rw [if_pos hxy] at hrec
      have hxy' : (x : Int) = y := by omega
      simp (disch := omega) [e1, e2, e3, e4, hb0, hxy']
      refine Rnd.mk' (i + 1) (by omega) (by (repeat (first | exact km | refine kp rfl ?_ | refine km' rfl ?_))) (by simp (disch := omega) [hrec]) ⟨rfl, by omega⟩
    · rw [if_neg hxy] at hrec
      have hxy' : ¬ (x : Int) = y := by omega
      simp (disch := omega) [e1, e2, e3, e4, hb0, hxy']
      refine Rnd.mk' (i + 1) (by omega) (by (repeat (first | exact km | refine kp rfl ?_ | refine km' rfl ?_))) (by simp (disch := omega) [hrec]) ⟨rfl, by omega⟩
  · have hi' : i = n := by omega
    subst hi'
    simp (disch := omega)
    exact ret_of h
theorem slopeWord_does (p q : Nat) (M : Mem) (R : Value → Mem → Prop) (hp : p ≤ 1000) (hq : q ≤ 1000) (h0 : 1 ≤ p + q) (h : R (str (slopeL p q)) M) : Does Tryz.prog 88 [.int .i64 p, .int .i64 q] M R := by
  unfold slopeL at h
  refine does_fn tab_ok Tryz.func88 rfl (by kernel_rfl) (by kernel_rfl) Tryz.ntmps88 Tryz.results88 rfl ?_
  obtain ⟨n, hn⟩ : ∃ n, n = p + q := ⟨_, rfl⟩
  have hnI : (p : Int) + q = n := by omega
  rw [← hn] at h
  simp (disch := omega) [hnI]
  refine stepped_does q n 0 n _ _ (by omega) (by omega) (by omega) (by omega) (by omega) ?_
  simp (disch := omega)
  exact ret_of h
def nmA (l : List UInt8) : Nat := l.countP fun u => u.toNat == 97
def nmB (l : List UInt8) : Nat := l.countP fun u => u.toNat == 98
theorem nmA_le (l : List UInt8) : nmA l ≤ l.length := List.countP_le_length
theorem nmB_le (l : List UInt8) : nmB l ≤ l.length := List.countP_le_length
/-- A word of two numbers (of its own letters). -/
def isSlope (l : List UInt8) : Bool := decide (Nat.gcd (nmA l) (nmB l) = 1) && (slopeL (nmA l) (nmB l) == l)
theorem slopeOk_n (l : List UInt8) (h : l.length ≤ 60) : slopeOk (nmA l : Nat) (nmB l : Nat) 0 = decide (Nat.gcd (nmA l) (nmB l) = 1) := by
  have h1 := nmA_le l
  have h2 := nmB_le l
  unfold slopeOk
  rw [decide_eq_true (by omega : (0 : Int) ≤ (nmA l : Nat) ∧ ((nmA l : Nat) : Int) ≤ 1000), decide_eq_true (by omega : (0 : Int) ≤ (nmB l : Nat) ∧ ((nmB l : Nat) : Int) ≤ 1000), Int.toNat_natCast, Int.toNat_natCast, Bool.true_and, Bool.true_and]
theorem pos_of_gcd {a b : Nat} (h : Nat.gcd a b = 1) : 1 ≤ a + b := by
  rcases Nat.eq_zero_or_pos (a + b) with h0 | h0
  · have ha : a = 0 := by omega
    have hb : b = 0 := by omega
    subst ha hb
    cases h
  · exact h0
theorem slopeOf_does (l : List UInt8) (M : Mem) (R : Value → Mem → Prop) (hl : l.length ≤ 60) (hw : l.all isL = true) (h : ∀ M', Sub M M' → R (.tuple #[.int .i64 (if isSlope l = true then nmA l else 0 : Nat), .int .i64 (if isSlope l = true then nmB l else 0 : Nat), .bool (isSlope l)]) M') : Does Tryz.prog 93 [str l] M R := by
  have h1 := nmA_le l
  have h2 := nmB_le l
  have hok := slopeOk_n l hl
  unfold isSlope at h
  refine does_fn tab_ok Tryz.func93 rfl (by kernel_rfl) (by kernel_rfl) Tryz.ntmps93 Tryz.results93 rfl ?_
  simp (disch := omega)
  refine count_does l _ _ (by omega) hw ?_
  intro v M1 o
  have hs := o.sub
  obtain ⟨a, c, rfl, ha⟩ := o.rd.opened
  rw [ints_length, counts_length] at ha ⊢
  rcases ha with h0 | ⟨b, o', rfl, ha⟩
  · omega
  have g0 := ha 0 (by omega)
  have g1 := ha 1 (by omega)
  have c0 : (counts l)[0]? = some ((nmA l : Nat) : Int) := rfl
  have c1 : (counts l)[1]? = some ((nmB l : Nat) : Int) := rfl
  rw [ints_get, c0, Nat.add_zero] at g0
  rw [ints_get, c1] at g1
  simp only [Option.map_some] at g0 g1
  revert h hok h1 h2 g0 g1
  generalize nmA l = p
  generalize nmB l = q
  intro h h1 h2 hok g0 g1
  simp (disch := omega)
  refine draw_to tab_ok (by kernel_rfl) (by kernel_rfl) (by rfl) ?_
  simp (disch := omega) [g0, g1]
  refine areSlope_does _ _ 0 _ _ (by omega) ?_
  rw [hok]
  by_cases hg : Nat.gcd p q = 1
  · rw [decide_eq_true hg] at h ⊢
    simp (disch := omega)
    refine slopeWord_does p q _ _ (by omega) (by omega) (pos_of_gcd hg) ?_
    by_cases he : slopeL p q = l
    · rw [beq_iff_eq.2 he] at h
      simp (disch := omega) [he]
      exact ret_of (h _ hs)
    · have he' : (slopeL p q == l) = false := beq_eq_false_iff_ne.2 he
      rw [he'] at h
      simp (disch := omega) [he, he']
      exact ret_of (h _ hs)
  · rw [decide_eq_false hg] at h ⊢
    simp (disch := omega)
    exact ret_of (h _ hs)
theorem l08Slope_does (l : List UInt8) (M : Mem) (R : Value → Mem → Prop) (hl : l.length ≤ 60) (hw : isAB l = true) (h : R (.tuple #[.int .i64 (nmA l), .int .i64 (nmB l), .bool (isSlope l)]) M) : Does Tryz.prog 95 [str l] M R := by
  have h1 := nmA_le l
  have h2 := nmB_le l
  unfold isSlope at h
  refine does_fn tab_ok Tryz.func95 rfl (by kernel_rfl) (by kernel_rfl) Tryz.ntmps95 Tryz.results95 rfl ?_
  simp (disch := omega)
  refine loop_to tab_ok [5, 6, 7, 8, 9, 10, 11, 12, 13, 14, 15, 16, 17, 18, 19, 20, 21] (fun i : Nat => [(7, .int .i64 i), (5, .int .i64 (nmA (l.take i) : Nat)), (6, .int .i64 (nmB (l.take i) : Nat))]) (fun i M' => M = M' ∧ i ≤ l.length) (fun i => l.length - i) 0 (by kernel_rfl) (by simp (disch := omega) [nmA, nmB]) ⟨rfl, by omega⟩ ?_
  rintro i M' g ⟨rfl, hi⟩
  by_cases hlt : i < l.length
  · have hx : l[i]? = some l[i] := List.getElem?_eq_getElem hlt
    have hf : l[i].toNat - 97 < 2 := by
      have := (Bool.and_eq_true_iff.1 hw).2
      unfold fewB at this
      simpa using List.all_eq_true.1 this _ (List.getElem_mem hlt)
    have hr := isL_range (List.all_eq_true.1 (isWord_all (Bool.and_eq_true_iff.1 hw).1) _ (List.getElem_mem hlt))
    have ea : nmA (l.take (i + 1)) = nmA (l.take i) + if l[i].toNat = 97 then 1 else 0 := by
      unfold nmA; rw [take_snoc l hlt, List.countP_append]; simp [List.countP_cons]
    have eb : nmB (l.take (i + 1)) = nmB (l.take i) + if l[i].toNat = 98 then 1 else 0 := by
      unfold nmB; rw [take_snoc l hlt, List.countP_append]; simp [List.countP_cons]
    have ba := nmA_le (l.take i)
    have bb := nmB_le (l.take i)
    have bt : (l.take i).length ≤ i := by rw [List.length_take]; omega
    by_cases hu : l[i].toNat = 97
    · rw [if_pos hu] at ea
      rw [if_neg (by omega)] at eb
      have hu' : (l[i].toNat : Int) = 97 := by omega
      revert ea eb ba bb
      generalize nmA (l.take i) = p
      generalize nmB (l.take i) = q
      intro ea eb ba bb
      simp (disch := omega) [hx, hu']
      refine Rnd.mk' (i + 1) (by omega) (by (repeat (first | exact km | refine kp rfl ?_ | refine km' rfl ?_))) (by simp (disch := omega) [ea, eb]) ⟨rfl, by omega⟩
    · rw [if_neg hu] at ea
      rw [if_pos (by omega)] at eb
      have hu' : ¬ (l[i].toNat : Int) = 97 := by omega
      revert ea eb ba bb
      generalize nmA (l.take i) = p
      generalize nmB (l.take i) = q
      intro ea eb ba bb
      simp (disch := omega) [hx, hu']
      refine Rnd.mk' (i + 1) (by omega) (by (repeat (first | exact km | refine kp rfl ?_ | refine km' rfl ?_))) (by simp (disch := omega) [ea, eb]) ⟨rfl, by omega⟩
  · have hi' : i = l.length := by omega
    subst hi'
    rw [List.take_length]
    revert h h1 h2
    generalize nmA l = p
    generalize nmB l = q
    intro h h1 h2
    simp (disch := omega)
    refine l02Gcd_does p q _ _ (by omega) (by omega) ?_
    by_cases hg : Nat.gcd p q = 1
    · rw [decide_eq_true hg] at h
      rw [hg]
      simp (disch := omega)
      refine l08Word_does p q _ _ (by omega) (by omega) ?_
      by_cases he : slopeL p q = l
      · rw [beq_iff_eq.2 he] at h
        simp (disch := omega) [he]
        exact ret_of h
      · have he' : (slopeL p q == l) = false := beq_eq_false_iff_ne.2 he
        rw [he'] at h
        simp (disch := omega) [he, he']
        exact ret_of h
    · rw [decide_eq_false hg] at h
      have h4 : ¬ ((Nat.gcd p q : Nat) : Int) = 1 := by omega
      have h5 : (((Nat.gcd p q : Nat) : Int) == 1) = false := beq_eq_false_iff_ne.2 h4
      generalize Nat.gcd p q = G at *
      simp (disch := omega) [h4, h5]
      exact ret_of h
end Go.Proofs.YticejlplbibegaaGreatDoor
/-! Contracts: slopes of words and cuts of words, of both; the laws. -/
namespace Go.Proofs.YticejlplbibegaaGreatDoor
open Go Go.RowKit
set_option linter.unusedSimpArgs false
set_option linter.unusedVariables false

def sP (l : List UInt8) : Nat := if isAB l = true then (if isSlope l = true then nmA l else 0) else 0
def sQ (l : List UInt8) : Nat := if isAB l = true then (if isSlope l = true then nmB l else 0) else 0
def sC (l : List UInt8) : Int := if isAB l = true then (if isSlope l = true then 0 else 5) else 1
theorem isAB_all {l : List UInt8} (h : isAB l = true) : l.all isL = true := isWord_all (Bool.and_eq_true_iff.1 h).1
theorem isAB_sub {l m : List UInt8} (h : isAB l = true) (hs : m.Sublist l) : isAB m = true := by
  unfold isAB isWord fewB at h ⊢
  simp only [Bool.and_eq_true, decide_eq_true_eq, List.all_eq_true] at h ⊢
  have := hs.length_le
  exact ⟨⟨by omega, fun x hx => h.1.2 x (hs.subset hx)⟩, fun x hx => h.2 x (hs.subset hx)⟩
theorem impl_SlopeOfWord (l : List UInt8) (M : Mem) (R : Value → Mem → Prop) (hl : l.length ≤ 1099511627776) (h : ∀ M', Sub M M' → R (.tuple #[.int .i64 (sP l), .int .i64 (sQ l), .int .i64 (sC l)]) M') : Does Tryz.prog 30 [str l] M R := by
  unfold sP sQ sC at h
  refine does_fn tab_ok Tryz.func30 rfl (by kernel_rfl) (by kernel_rfl) Tryz.ntmps30 Tryz.results30 rfl ?_
  simp (disch := omega)
  refine isTwo_does l _ _ hl ?_
  cases hw : isAB l
  · rw [hw] at h
    simp only [Bool.false_eq_true, if_false] at h
    simp (disch := omega)
    exact ret_of (h _ (Sub.refl _))
  · rw [hw] at h
    simp only [if_true] at h
    simp (disch := omega)
    refine slopeOf_does l _ _ (isAB_len hw) (isAB_all hw) ?_
    intro M1 s1
    have h2 := h M1 s1
    cases hs : isSlope l
    · rw [hs] at h2
      simp only [Bool.false_eq_true, if_false] at h2 ⊢
      simp (disch := omega)
      exact ret_of h2
    · rw [hs] at h2
      simp only [if_true] at h2 ⊢
      simp (disch := omega)
      exact ret_of h2
theorem spec_SlopeOfWord (l : List UInt8) (M : Mem) (R : Value → Mem → Prop) (hl : l.length ≤ 1099511627776) (h : R (.tuple #[.int .i64 (sP l), .int .i64 (sQ l), .int .i64 (sC l)]) M) : Does Tryz.prog 31 [str l] M R := by
  unfold sP sQ sC at h
  refine does_fn tab_ok Tryz.func31 rfl (by kernel_rfl) (by kernel_rfl) Tryz.ntmps31 Tryz.results31 rfl ?_
  simp (disch := omega)
  refine l08Is_does l _ _ hl ?_
  cases hw : isAB l
  · rw [hw] at h
    simp only [Bool.false_eq_true, if_false] at h
    simp (disch := omega)
    exact ret_of h
  · rw [hw] at h
    simp only [if_true] at h
    simp (disch := omega)
    refine l08Slope_does l _ _ (isAB_len hw) hw ?_
    cases hs : isSlope l
    · rw [hs] at h
      simp only [Bool.false_eq_true, if_false] at h ⊢
      simp (disch := omega)
      exact ret_of h
    · rw [hs] at h
      simp only [if_true] at h ⊢
      simp (disch := omega)
      exact ret_of h
/-- A cut of a word at a place. -/
def cutB (l : List UInt8) (i : Nat) : Bool := decide (1 ≤ i) && (isSlope (l.take i) && isSlope (l.drop i))
def cutI (l : List UInt8) : Option Nat := if isSlope l = true then (List.range l.length).find? (cutB l) else none
theorem cutI_some {l : List UInt8} {i : Nat} (hs : isSlope l = true) (hi : i < l.length) (hb : cutB l i = true) (hn : ∀ j < i, cutB l j = false) : cutI l = some i := by
  unfold cutI
  rw [if_pos hs]
  exact List.find?_range_eq_some.2 ⟨hb, by simpa using hi, fun j hj => by rw [hn j hj]; rfl⟩
theorem cutI_none {l : List UInt8} (hn : ∀ j < l.length, cutB l j = false) : cutI l = none := by
  unfold cutI
  split
  · exact List.find?_range_eq_none.2 fun j hj => by rw [hn j hj]; rfl
  · rfl
theorem cutI_not {l : List UInt8} (hs : isSlope l = false) : cutI l = none := by
  unfold cutI; rw [hs]; rfl
def kA (l : List UInt8) : List UInt8 := if isAB l = true then (match cutI l with | some i => l.take i | none => []) else []
def kB (l : List UInt8) : List UInt8 := if isAB l = true then (match cutI l with | some i => l.drop i | none => []) else []
def kC (l : List UInt8) : Int := if isAB l = true then (match cutI l with | some _ => 0 | none => 5) else 1
theorem impl_CutOf (l : List UInt8) (M : Mem) (R : Value → Mem → Prop) (hl : l.length ≤ 1099511627776) (h : ∀ M', Sub M M' → R (.tuple #[str (kA l), str (kB l), .int .i64 (kC l)]) M') : Does Tryz.prog 33 [str l] M R := by
  unfold kA kB kC at h
  refine does_fn tab_ok Tryz.func33 rfl (by kernel_rfl) (by kernel_rfl) Tryz.ntmps33 Tryz.results33 rfl ?_
  simp (disch := omega)
  refine isTwo_does l _ _ hl ?_
  cases hw : isAB l
  · rw [hw] at h
    simp only [Bool.false_eq_true, if_false] at h
    simp (disch := omega)
    exact ret_of (h _ (Sub.refl _))
  · rw [hw] at h
    simp only [if_true] at h
    have h60 := isAB_len hw
    simp (disch := omega)
    refine slopeOf_does l _ _ (isAB_len hw) (isAB_all hw) ?_
    intro M1 s1
    cases hs : isSlope l
    · rw [cutI_not hs] at h
      simp only at h
      have h2 := h M1 s1
      simp (disch := omega)
      exact ret_of h2
    · by_cases h2 : l.length < 2
      · rw [cutI_none (fun j hj => by
          have : j = 0 := by omega
          subst this; rfl)] at h
        have h2' : (l.length : Int) < 2 := by omega
        have h3 := h M1 s1
        simp (disch := omega) [h2']
        exact ret_of h3
      · have h2' : ¬ (l.length : Int) < 2 := by omega
        simp (disch := omega) [h2']
        refine loop_to tab_ok [2, 3, 4, 8, 9, 10, 11, 12, 13, 14, 31, 32, 33, 34, 35, 36, 37, 38, 39, 40, 41, 42, 43, 44, 45, 46, 47, 48, 49, 50, 51, 52, 53, 54, 55, 56, 57, 58, 59, 60, 61, 62] (fun i : Nat => [(8, .int .i64 i)]) (fun i M' => Sub M M' ∧ 1 ≤ i ∧ i ≤ l.length ∧ ∀ j < i, cutB l j = false) (fun i => l.length - i) 1 (by kernel_rfl) (by simp (disch := omega)) ⟨s1, by omega, by omega, fun j hj => by
          have : j = 0 := by omega
          subst this; rfl⟩ ?_
        rintro i M' g ⟨sM, h1, hi, hn⟩
        by_cases hlt : i < l.length
        · have iA := isAB_sub hw (List.take_sublist i l)
          have iB := isAB_sub hw (List.drop_sublist i l)
          simp (disch := omega)
          refine slopeOf_does (l.take i) _ _ (isAB_len iA) (isAB_all iA) ?_
          intro M2 s2
          simp (disch := omega)
          refine slopeOf_does (l.drop i) _ _ (isAB_len iB) (isAB_all iB) ?_
          intro M3 s3
          have hc : cutB l i = (isSlope (l.take i) && isSlope (l.drop i)) := by unfold cutB; rw [decide_eq_true h1, Bool.true_and]
          have sAll := (sM.trans s2).trans s3
          cases ha : isSlope (l.take i)
          · rw [ha, Bool.false_and] at hc
            simp (disch := omega)
            refine Rnd.mk' (i + 1) (by omega) (by (repeat (first | exact km | refine kp rfl ?_ | refine km' rfl ?_))) (by simp (disch := omega)) ⟨sAll, by omega, by omega, fun j hj => ?_⟩
            rcases Nat.lt_or_ge j i with h | h
            · exact hn j h
            · rw [show j = i by omega]; exact hc
          · cases hb : isSlope (l.drop i)
            · rw [ha, hb, Bool.true_and] at hc
              simp (disch := omega)
              refine Rnd.mk' (i + 1) (by omega) (by (repeat (first | exact km | refine kp rfl ?_ | refine km' rfl ?_))) (by simp (disch := omega)) ⟨sAll, by omega, by omega, fun j hj => ?_⟩
              rcases Nat.lt_or_ge j i with h | h
              · exact hn j h
              · rw [show j = i by omega]; exact hc
            · rw [ha, hb, Bool.true_and] at hc
              rw [cutI_some hs hlt hc hn] at h
              simp only at h
              have h3 := h M3 sAll
              simp (disch := omega)
              refine draw_to tab_ok (by kernel_rfl) (by kernel_rfl) (by rfl) ?_
              simp (disch := omega)
              exact ret_of h3
        · have hi' : i = l.length := by omega
          subst hi'
          rw [cutI_none hn] at h
          simp only at h
          have h3 := h M' sM
          simp (disch := omega)
          exact ret_of h3
theorem spec_CutOf (l : List UInt8) (M : Mem) (R : Value → Mem → Prop) (hl : l.length ≤ 1099511627776) (h : R (.tuple #[str (kA l), str (kB l), .int .i64 (kC l)]) M) : Does Tryz.prog 34 [str l] M R := by
  unfold kA kB kC at h
  refine does_fn tab_ok Tryz.func34 rfl (by kernel_rfl) (by kernel_rfl) Tryz.ntmps34 Tryz.results34 rfl ?_
  simp (disch := omega)
  refine l08Is_does l _ _ hl ?_
  cases hw : isAB l
  · rw [hw] at h
    simp only [Bool.false_eq_true, if_false] at h
    simp (disch := omega)
    exact ret_of h
  · rw [hw] at h
    simp only [if_true] at h
    have h60 := isAB_len hw
    simp (disch := omega)
    refine l08Slope_does l _ _ (isAB_len hw) hw ?_
    generalize nmA l = p0
    generalize nmB l = q0
    simp (disch := omega)
    refine loop_to tab_ok [2, 3, 4, 8, 9, 10, 11, 12, 13, 14, 24, 25, 26, 27, 28, 29, 30, 31, 32, 33, 34, 35, 36, 37, 38, 39, 40, 41, 42, 43, 44, 45, 46, 47, 48, 49, 50, 51, 52, 53, 54, 55, 56, 57, 58] (fun i : Nat => [(8, .int .i64 i)]) (fun i M' => M = M' ∧ 1 ≤ i ∧ (i ≤ l.length ∨ i = 1) ∧ ∀ j < i, cutB l j = false) (fun i => l.length - i) 1 (by kernel_rfl) (by simp (disch := omega)) ⟨rfl, by omega, by omega, fun j hj => by
      have : j = 0 := by omega
      subst this; rfl⟩ ?_
    rintro i M' g ⟨rfl, h1, hi, hn⟩
    by_cases hlt : i < l.length
    · cases hs : isSlope l
      · rw [cutI_not hs] at h
        simp only at h
        simp (disch := omega)
        exact ret_of h
      · have iA := isAB_sub hw (List.take_sublist i l)
        have iB := isAB_sub hw (List.drop_sublist i l)
        simp (disch := omega)
        refine l08Slope_does (l.take i) _ _ (isAB_len iA) iA ?_
        simp (disch := omega)
        refine l08Slope_does (l.drop i) _ _ (isAB_len iB) iB ?_
        have hc : cutB l i = (isSlope (l.take i) && isSlope (l.drop i)) := by unfold cutB; rw [decide_eq_true h1, Bool.true_and]
        generalize nmA (l.take i) = p1
        generalize nmB (l.take i) = q1
        generalize nmA (l.drop i) = p2
        generalize nmB (l.drop i) = q2
        cases ha : isSlope (l.take i)
        · rw [ha, Bool.false_and] at hc
          simp (disch := omega)
          refine Rnd.mk' (i + 1) (by omega) (by (repeat (first | exact km | refine kp rfl ?_ | refine km' rfl ?_))) (by simp (disch := omega)) ⟨rfl, by omega, by omega, fun j hj => ?_⟩
          rcases Nat.lt_or_ge j i with h | h
          · exact hn j h
          · rw [show j = i by omega]; exact hc
        · cases hb : isSlope (l.drop i)
          · rw [ha, hb, Bool.true_and] at hc
            simp (disch := omega)
            refine Rnd.mk' (i + 1) (by omega) (by (repeat (first | exact km | refine kp rfl ?_ | refine km' rfl ?_))) (by simp (disch := omega)) ⟨rfl, by omega, by omega, fun j hj => ?_⟩
            rcases Nat.lt_or_ge j i with h | h
            · exact hn j h
            · rw [show j = i by omega]; exact hc
          · rw [ha, hb, Bool.true_and] at hc
            rw [cutI_some hs hlt hc hn] at h
            simp only at h
            simp (disch := omega)
            refine draw_to tab_ok (by kernel_rfl) (by kernel_rfl) (by rfl) ?_
            simp (disch := omega)
            exact ret_of h
    · rw [cutI_none (fun j hj => hn j (by omega))] at h
      simp only at h
      simp (disch := omega) [hlt]
      exact ret_of h
end Go.Proofs.YticejlplbibegaaGreatDoor

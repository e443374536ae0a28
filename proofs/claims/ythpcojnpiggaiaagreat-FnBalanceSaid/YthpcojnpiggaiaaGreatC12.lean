/- Contracts: the first word without abelian powers. -/
import Derived.Test.YthpcojnpiggaiaaGreatCB
namespace Go.Proofs.YthpcojnpiggaiaaGreat
open Go
set_option linter.unusedSimpArgs false
set_option linter.unusedVariables false

/-- The letter with a number. -/
def ltr (n : Nat) : UInt8 := UInt8.ofNat (97 + n)
theorem isL_letter {n : Nat} (h : n ≤ 4) : isL (ltr n) = true := by
  unfold ltr
  have : n = 0 ∨ n = 1 ∨ n = 2 ∨ n = 3 ∨ n = 4 := by omega
  rcases this with rfl | rfl | rfl | rfl | rfl <;> decide
/-- Does a word end with an abelian power, of length at most q each? -/
def endsTo (w : List UInt8) (k q : Nat) : Bool := (List.range q).any fun m => abel w (w.length - k * (m + 1)) (m + 1) k
def endsA (w : List UInt8) (k : Nat) : Bool := endsTo w k (w.length / k)
theorem endsTo_succ (w : List UInt8) (k q : Nat) : endsTo w k (q + 1) = (endsTo w k q || abel w (w.length - k * (q + 1)) (q + 1) k) := by simp [endsTo, List.range_succ]
theorem endsTo_yes {w : List UInt8} {k q n : Nat} (hq : q < n) (h : abel w (w.length - k * (q + 1)) (q + 1) k = true) : endsTo w k n = true := by
  unfold endsTo
  rw [List.any_eq_true]
  exact ⟨q, List.mem_range.2 hq, h⟩
theorem ends_iff {w : List UInt8} {q k : Nat} (hk : 1 ≤ k) : k * (q + 1) ≤ w.length ↔ q < w.length / k := by
  rw [Nat.lt_iff_add_one_le, Nat.le_div_iff_mul_le hk, Nat.mul_comm]
theorem seg_end {w : List UInt8} {a m : Nat} (h : a + m = w.length) : w.drop a = seg w a m := by unfold seg; rw [h, List.take_length]
theorem l01Letter_does (n : Nat) (M : Mem) (R : Value → Mem → Prop) (h1 : n ≤ 4) (h : R (str [ltr n]) M) : Does Tryz.prog 54 [.int .i64 n] M R := by
  refine does_fn tab_ok Tryz.func54 rfl (by kernel_rfl) (by kernel_rfl) Tryz.ntmps54 Tryz.results54 rfl ?_
  simp (disch := omega)
  intro b hb
  simp (disch := omega)
  have e : (97 + (n : Int)).toNat = 97 + n := by omega
  unfold ltr at h
  rw [← e] at h
  exact ret_sub ((Sub.refl M).put hb _) h
theorem letterN_does (n : Nat) (M : Mem) (R : Value → Mem → Prop) (h1 : n ≤ 4) (h : R (str [ltr n]) M) : Does Tryz.prog 95 [.int .i64 n] M R :=
  letter_does n M R (by omega) (by omega) (by rw [Int.toNat_natCast]; exact h)
theorem l07Ends_does (w : List UInt8) (k : Nat) (M : Mem) (R : Value → Mem → Prop) (hl : w.length ≤ 60) (hk : 1 ≤ k) (hk' : k ≤ 60) (hw : w.all isL = true) (h : R (.bool (endsA w k)) M) : Does Tryz.prog 125 [str w, .int .i64 k] M R := by
  refine does_fn tab_ok Tryz.func125 rfl (by kernel_rfl) (by kernel_rfl) Tryz.ntmps125 Tryz.results125 rfl ?_
  simp (disch := omega)
  refine loop_to tab_ok [4, 6, 9, 10, 11, 12, 13, 14, 15, 16, 17, 18, 19, 20, 21, 22, 23, 24] (fun q : Nat => [(6, .int .i64 (q + 1))]) (fun q M' => M' = M ∧ q ≤ w.length / k ∧ endsTo w k q = false) (fun q => w.length / k - q) 0 (by kernel_rfl) (by simp (disch := omega)) ⟨rfl, Nat.zero_le _, rfl⟩ ?_
  rintro q M' g ⟨rfl, hq, he⟩
  have hdiv : w.length / k ≤ w.length := Nat.div_le_self _ _
  obtain ⟨p, hp⟩ : ∃ p, p = k * (q + 1) := ⟨_, rfl⟩
  have hp' : p ≤ 60 * 61 := by rw [hp]; exact Nat.mul_le_mul hk' (by omega)
  have e1 : ((q : Int) + 1) * k = p := by rw [hp, Nat.mul_comm]; push_cast; rfl
  have hiff := ends_iff (w := w) (q := q) hk
  rw [← hp] at hiff
  by_cases hlt : q < w.length / k
  · have hle := hiff.2 hlt
    have hle' : (p : Int) ≤ w.length := by omega
    have e2 : (w.length : Int) - p = ((w.length - p : Nat) : Int) := by omega
    have hq1 : ((q : Int) + 1) = ((q + 1 : Nat) : Int) := by push_cast; rfl
    simp (disch := omega) [e1, hle', e2]
    refine l07Power_does w (w.length - p) (q + 1) k _ hq1 _ _ hl (by omega) (by omega) (by omega) hk hk' hw ?_
    rw [← hp, decide_eq_true (by omega : w.length - p + p ≤ w.length), Bool.true_and]
    cases hab : abel w (w.length - p) (q + 1) k
    · simp (disch := omega)
      refine Rnd.mk' (q + 1) (by omega) (by (repeat (first | exact km | refine kp rfl ?_ | refine km' rfl ?_))) (by simp (disch := omega)) ⟨rfl, by omega, ?_⟩
      rw [endsTo_succ, he, ← hp, hab]; rfl
    · simp (disch := omega)
      refine ret_of ?_
      have : endsA w k = true := endsTo_yes hlt (by rw [← hp]; exact hab)
      rw [this] at h; exact h
  · have hle' : ¬ (p : Int) ≤ w.length := by intro hc; exact hlt (hiff.1 (by omega))
    have hq' : q = w.length / k := by omega
    simp (disch := omega) [e1, hle']
    refine ret_of ?_
    have : endsA w k = false := by unfold endsA; rw [← hq']; exact he
    rw [this] at h; exact h
theorem endsAbelianFree_does (w : List UInt8) (k : Nat) (M : Mem) (R : Value → Mem → Prop) (hl : w.length ≤ 60) (hk : 1 ≤ k) (hk' : k ≤ 60) (hw : w.all isL = true) (h : R (.bool (!endsA w k)) M) : Does Tryz.prog 96 [str w, .int .i64 k] M R := by
  refine does_fn tab_ok Tryz.func96 rfl (by kernel_rfl) (by kernel_rfl) Tryz.ntmps96 Tryz.results96 rfl ?_
  simp (disch := omega)
  refine loop_to tab_ok [4, 5, 6, 7, 8, 9, 10, 11, 12, 13, 14, 15, 16, 17, 18, 19, 20, 21, 22, 23] (fun q : Nat => [(5, .int .i64 (q + 1))]) (fun q M' => M' = M ∧ q ≤ w.length / k ∧ endsTo w k q = false) (fun q => w.length / k - q) 0 (by kernel_rfl) (by simp (disch := omega)) ⟨rfl, Nat.zero_le _, rfl⟩ ?_
  rintro q M' g ⟨rfl, hq, he⟩
  have hdiv : w.length / k ≤ w.length := Nat.div_le_self _ _
  obtain ⟨p, hp⟩ : ∃ p, p = k * (q + 1) := ⟨_, rfl⟩
  have hp' : p ≤ 60 * 61 := by rw [hp]; exact Nat.mul_le_mul hk' (by omega)
  have e1 : (k : Int) * (q + 1) = p := by rw [hp]; push_cast; rfl
  have hiff := ends_iff (w := w) (q := q) hk
  rw [← hp] at hiff
  by_cases hlt : q < w.length / k
  · have hle := hiff.2 hlt
    have hle' : (p : Int) ≤ w.length := by omega
    have hq1 : ((q : Int) + 1) = ((q + 1 : Nat) : Int) := by push_cast; rfl
    have hseg : List.drop (w.length - p) w = seg w (w.length - p) p := seg_end (by omega)
    have hsl := seg_len (w := w) (a := w.length - p) (m := p) (by omega)
    simp (disch := omega) [e1, hle']
    rw [hseg]
    refine isAbelian_does (seg w (w.length - p) p) (q + 1) k _ hq1 _ _ (by rw [hsl, hp]) (by omega) (by omega) hk (seg_all hw _ _) ?_
    rw [show alikeTo (seg w (w.length - p) p) (q + 1) k = abel w (w.length - p) (q + 1) k by unfold abel; rw [hp]]
    cases hab : abel w (w.length - p) (q + 1) k
    · simp (disch := omega)
      refine Rnd.mk' (q + 1) (by omega) (by (repeat (first | exact km | refine kp rfl ?_ | refine km' rfl ?_))) (by simp (disch := omega)) ⟨rfl, by omega, ?_⟩
      rw [endsTo_succ, he, ← hp, hab]; rfl
    · simp (disch := omega)
      refine ret_of ?_
      have : endsA w k = true := endsTo_yes hlt (by rw [← hp]; exact hab)
      rw [this] at h; exact h
  · have hle' : ¬ (p : Int) ≤ w.length := by intro hc; exact hlt (hiff.1 (by omega))
    have hq' : q = w.length / k := by omega
    simp (disch := omega) [e1, hle']
    refine ret_of ?_
    have : endsA w k = false := by unfold endsA; rw [← hq']; exact he
    rw [this] at h; exact h
def stepF (f : List UInt8 → Option (List UInt8)) (w : List UInt8) (k c : Nat) : Option (List UInt8) := if endsA (w ++ [ltr c]) k then none else f (w ++ [ltr c])
def tryF (f : List UInt8 → Option (List UInt8)) (w : List UInt8) (k c : Nat) : Option (List UInt8) := (List.range c).findSome? (stepF f w k)
/-- The first word of length m that goes on w, of j letters, without abelian powers at the ends; d bounds the length to come. -/
def findA (m j k : Nat) : Nat → List UInt8 → Option (List UInt8)
  | 0, w => if w.length = m then some w else none
  | d + 1, w => if w.length = m then some w else
    tryF (findA m j k d) w k j
def optV (o : Option (List UInt8)) : Value := match o with
  | some w => .tuple #[str w, .bool true]
  | none => .tuple #[str [], .bool false]
theorem findSome_snoc {α β : Type} (l : List α) (a : α) (f : α → Option β) : (l ++ [a]).findSome? f = (l.findSome? f).or (f a) := by
  rw [List.findSome?_append]; cases List.findSome? f l <;> simp
theorem find_yes {β : Type} {f : Nat → Option β} {c j : Nat} {b : β} (hc : c < j) (h0 : (List.range c).findSome? f = none) (h : f c = some b) : (List.range j).findSome? f = some b := by
  have e : List.range j = List.range c ++ c :: (List.range' (c + 1) (j - c - 1)) := by
    rw [List.range_eq_range', List.range_eq_range', ← List.range'_succ, show j - c - 1 + 1 = j - c by omega]
    have := List.range'_append_1 (s := 0) (m := c) (n := j - c)
    rw [Nat.zero_add, show c + (j - c) = j by omega] at this
    exact this.symm
  rw [e, List.findSome?_append, h0, List.findSome?_cons, h]; rfl
theorem tryF_succ (f : List UInt8 → Option (List UInt8)) (w : List UInt8) (k c : Nat) : tryF f w k (c + 1) = (tryF f w k c).or (stepF f w k c) := by
  unfold tryF; rw [List.range_succ, findSome_snoc]
theorem tryF_yes {f : List UInt8 → Option (List UInt8)} {w x : List UInt8} {k c j : Nat} (hc : c < j) (h0 : tryF f w k c = none) (h : stepF f w k c = some x) : tryF f w k j = some x := find_yes hc h0 h
theorem tryF_zero (f : List UInt8 → Option (List UInt8)) (w : List UInt8) (k : Nat) : tryF f w k 0 = none := rfl
theorem l07Find_does (m j k : Nat) (hj : j ≤ 4) (hk : 1 ≤ k) (hk' : k ≤ 60) (hm : m ≤ 16) : ∀ (d : Nat) (w : List UInt8) (M : Mem) (R : Value → Mem → Prop), w.length + d = m → w.all isL = true → R (optV (findA m j k d w)) M →
    Does Tryz.prog 97 [str w, .int .i64 m, .int .i64 j, .int .i64 k] M R := by
  intro d
  induction d with
  | zero =>
    intro w M R hd hw h
    have hlm : w.length = m := by omega
    have hb : ((w.length : Int) == m) = true := by rw [hlm]; exact beq_self_eq_true _
    unfold findA optV at h
    rw [if_pos hlm] at h
    refine does_fn tab_ok Tryz.func97 rfl (by kernel_rfl) (by kernel_rfl) Tryz.ntmps97 Tryz.results97 rfl ?_
    simp (disch := omega) [hb]
    exact ret_of h
  | succ d ih =>
    intro w M R hd hw h
    have hlm : ¬ w.length = m := by omega
    have hb : ((w.length : Int) == m) = false := beq_eq_false_iff_ne.2 (by omega)
    unfold findA at h
    rw [if_neg hlm] at h
    refine does_fn tab_ok Tryz.func97 rfl (by kernel_rfl) (by kernel_rfl) Tryz.ntmps97 Tryz.results97 rfl ?_
    simp (disch := omega) [hb]
    refine loop_to tab_ok [8, 9, 10, 11, 12, 13, 19, 20, 21, 22, 23, 24, 25, 26, 27, 28, 29, 30, 31, 32, 33, 34, 35, 36, 37, 38, 39, 40] (fun c : Nat => [(10, .int .i64 c)]) (fun c M' => M' = M ∧ c ≤ j ∧ tryF (findA m j k d) w k c = none) (fun c => j - c) 0 (by kernel_rfl) (by simp (disch := omega)) ⟨rfl, by omega, rfl⟩ ?_
    rintro c M' g ⟨rfl, hc, hn⟩
    by_cases hlt : c < j
    · have hw' : (w ++ [ltr c]).all isL = true := by rw [List.all_append, hw]; simpa using isL_letter (n := c) (by omega)
      have hl' : (w ++ [ltr c]).length = w.length + 1 := by simp
      simp (disch := omega)
      refine l01Letter_does c _ _ (by omega) ?_
      simp (disch := omega)
      refine l07Ends_does _ k _ _ (by omega) hk hk' hw' ?_
      have hs := tryF_succ (findA m j k d) w k c
      rw [hn, Option.none_or] at hs
      unfold stepF at hs
      cases he : endsA (w ++ [ltr c]) k
      · rw [he] at hs
        simp (disch := omega)
        refine ih _ _ _ (by omega) hw' ?_
        cases hf : findA m j k d (w ++ [ltr c]) with
        | none =>
          unfold optV
          simp (disch := omega)
          refine Rnd.mk' (c + 1) (by omega) (by (repeat (first | exact km | refine kp rfl ?_ | refine km' rfl ?_))) (by simp (disch := omega)) ⟨rfl, by omega, ?_⟩
          rw [hs, hf]; rfl
        | some x =>
          unfold optV
          simp (disch := omega)
          refine ret_of ?_
          rw [tryF_yes hlt hn (by unfold stepF; rw [he, hf]; rfl)] at h
          exact h
      · rw [he] at hs
        simp (disch := omega)
        refine Rnd.mk' (c + 1) (by omega) (by (repeat (first | exact km | refine kp rfl ?_ | refine km' rfl ?_))) (by simp (disch := omega)) ⟨rfl, by omega, ?_⟩
        rw [hs]; rfl
    · have hc' : c = j := by omega
      subst hc'
      rw [hn] at h
      simp (disch := omega)
      exact ret_of h
theorem find1_does (m j k : Nat) (hj : j ≤ 4) (hk : 1 ≤ k) (hk' : k ≤ 60) (hm : m ≤ 16) (b3 b4 b5 b8 : Nat) : ∀ (d : Nat) (w : List UInt8) (M : Mem) (R : Value → Mem → Prop), w.length + d = m → w.all isL = true →
    M.get? b3 0 = some (.int .i64 m) → M.get? b4 0 = some (.int .i64 j) → M.get? b5 0 = some (.int .i64 k) →
    M.get? b8 0 = some (.func (.func 94) #[] #[.pointer (some ⟨b3, 0, none⟩), .pointer (some ⟨b4, 0, none⟩), .pointer (some ⟨b5, 0, none⟩), .pointer (some ⟨b8, 0, none⟩)]) →
    R (optV (findA m j k d w)) M →
    Does Tryz.prog 94 [str w, .pointer (some ⟨b3, 0, none⟩), .pointer (some ⟨b4, 0, none⟩), .pointer (some ⟨b5, 0, none⟩), .pointer (some ⟨b8, 0, none⟩)] M R := by
  intro d
  induction d with
  | zero =>
    intro w M R hd hw g3 g4 g5 g8 h
    have hlm : w.length = m := by omega
    have hb : ((w.length : Int) == m) = true := by rw [hlm]; exact beq_self_eq_true _
    unfold findA optV at h
    rw [if_pos hlm] at h
    refine does_fn tab_ok Tryz.func94 rfl (by kernel_rfl) (by kernel_rfl) Tryz.ntmps94 Tryz.results94 rfl ?_
    simp (disch := omega)
    refine draw_to tab_ok (by kernel_rfl) (by kernel_rfl) (by rfl) ?_
    simp (disch := omega)
    refine vQCall_at (a := []) (c := []) (size_does w _ _ (by omega) ⟨rfl, rfl⟩) ?_
    simp (disch := omega) [g3, hb]
    exact ret_of h
  | succ d ih =>
    intro w M R hd hw g3 g4 g5 g8 h
    have hlm : ¬ w.length = m := by omega
    have hb : ((w.length : Int) == m) = false := beq_eq_false_iff_ne.2 (by omega)
    unfold findA at h
    rw [if_neg hlm] at h
    refine does_fn tab_ok Tryz.func94 rfl (by kernel_rfl) (by kernel_rfl) Tryz.ntmps94 Tryz.results94 rfl ?_
    simp (disch := omega)
    refine draw_to tab_ok (by kernel_rfl) (by kernel_rfl) (by rfl) ?_
    simp (disch := omega)
    refine vQCall_at (a := []) (c := []) (size_does w _ _ (by omega) ⟨rfl, rfl⟩) ?_
    simp (disch := omega) [g3, g4, hb]
    refine loop_to tab_ok [6, 7, 8, 9, 10, 11, 18, 19, 20, 21, 22, 23, 24, 25, 26, 27, 28, 29, 30, 31, 32, 33, 34, 35, 36] (fun c : Nat => [(18, .int .i64 c)]) (fun c M' => M' = M ∧ c ≤ j ∧ tryF (findA m j k d) w k c = none) (fun c => j - c) 0 (by kernel_rfl) (by simp (disch := omega)) ⟨rfl, by omega, rfl⟩ ?_
    rintro c M' g ⟨rfl, hc, hn⟩
    by_cases hlt : c < j
    · have hw' : (w ++ [ltr c]).all isL = true := by rw [List.all_append, hw]; simpa using isL_letter (n := c) (by omega)
      have hl' : (w ++ [ltr c]).length = w.length + 1 := by simp
      simp (disch := omega)
      refine letterN_does c _ _ (by omega) ?_
      simp (disch := omega) [g5]
      refine endsAbelianFree_does _ k _ _ (by omega) hk hk' hw' ?_
      have hs := tryF_succ (findA m j k d) w k c
      rw [hn, Option.none_or] at hs
      unfold stepF at hs
      cases he : endsA (w ++ [ltr c]) k
      · rw [he] at hs
        simp (disch := omega) [g8]
        refine ih _ _ _ (by omega) hw' g3 g4 g5 g8 ?_
        cases hf : findA m j k d (w ++ [ltr c]) with
        | none =>
          unfold optV
          simp (disch := omega)
          refine Rnd.mk' (c + 1) (by omega) (by (repeat (first | exact km | refine kp rfl ?_ | refine km' rfl ?_))) (by simp (disch := omega)) ⟨rfl, by omega, ?_⟩
          rw [hs, hf]; rfl
        | some x =>
          unfold optV
          simp (disch := omega)
          refine ret_of ?_
          rw [tryF_yes hlt hn (by unfold stepF; rw [he, hf]; rfl)] at h
          exact h
      · rw [he] at hs
        simp (disch := omega)
        refine Rnd.mk' (c + 1) (by omega) (by (repeat (first | exact km | refine kp rfl ?_ | refine km' rfl ?_))) (by simp (disch := omega)) ⟨rfl, by omega, ?_⟩
        rw [hs]; rfl
    · have hc' : c = j := by omega
      subst hc'
      rw [hn] at h
      simp (disch := omega)
      exact ret_of h
def inA (m j k : Int) : Bool := decide (0 ≤ m ∧ m ≤ 16) && (decide (1 ≤ j ∧ j ≤ 4) && decide (2 ≤ k ∧ k ≤ 4))
def firstA (m j k : Int) : Option (List UInt8) := findA m.toNat j.toNat k.toNat m.toNat []
def foundT : Option (List UInt8) → List UInt8
  | some w => w
  | none => []
def foundC : Option (List UInt8) → Int
  | some _ => 0
  | none => 4
def firstAT (m j k : Int) : List UInt8 := if inA m j k then foundT (firstA m j k) else []
def firstAC (m j k : Int) : Int := if inA m j k then foundC (firstA m j k) else 2
theorem spec_FirstAbelianFree (m j k : Int) (M : Mem) (R : Value → Mem → Prop) (h : R (tup2 (str (firstAT m j k)) (firstAC m j k)) M) : Does Tryz.prog 44 [.int .i64 m, .int .i64 j, .int .i64 k] M R := by
  unfold tup2 firstAT firstAC inA at h
  refine does_fn tab_ok Tryz.func44 rfl (by kernel_rfl) (by kernel_rfl) Tryz.ntmps44 Tryz.results44 rfl ?_
  simp (disch := omega)
  refine l01In_does m 0 16 _ _ ?_
  by_cases h1 : 0 ≤ m ∧ m ≤ 16
  · rw [decide_eq_true h1, Bool.true_and] at h
    rw [decide_eq_true h1]
    simp (disch := omega)
    refine l01In_does j 1 4 _ _ ?_
    by_cases h2 : 1 ≤ j ∧ j ≤ 4
    · rw [decide_eq_true h2, Bool.true_and] at h
      rw [decide_eq_true h2]
      simp (disch := omega)
      refine l01In_does k 2 4 _ _ ?_
      by_cases h3 : 2 ≤ k ∧ k ≤ 4
      · rw [decide_eq_true h3, if_pos rfl, if_pos rfl] at h
        rw [decide_eq_true h3]
        obtain ⟨m, rfl⟩ : ∃ n : Nat, m = n := ⟨m.toNat, by omega⟩
        obtain ⟨j, rfl⟩ : ∃ n : Nat, j = n := ⟨j.toNat, by omega⟩
        obtain ⟨k, rfl⟩ : ∃ n : Nat, k = n := ⟨k.toNat, by omega⟩
        unfold firstA at h
        simp only [Int.toNat_natCast] at h
        simp (disch := omega)
        refine l07Find_does m j k (by omega) (by omega) (by omega) (by omega) m [] _ _ (by simp) rfl ?_
        cases hf : findA m j k m [] with
        | none =>
          rw [hf] at h
          unfold optV
          simp (disch := omega)
          exact ret_of h
        | some x =>
          rw [hf] at h
          unfold optV
          simp (disch := omega)
          exact ret_of h
      · rw [decide_eq_false h3] at h
        rw [decide_eq_false h3]
        simp (disch := omega)
        exact ret_of h
    · rw [decide_eq_false h2, Bool.false_and] at h
      rw [decide_eq_false h2]
      simp (disch := omega)
      exact ret_of h
  · rw [decide_eq_false h1, Bool.false_and] at h
    rw [decide_eq_false h1]
    simp (disch := omega)
    exact ret_of h
theorem impl_FirstAbelianFree (m j k : Int) (M : Mem) (R : Value → Mem → Prop) (h : R (tup2 (str (firstAT m j k)) (firstAC m j k)) M) : Does Tryz.prog 43 [.int .i64 m, .int .i64 j, .int .i64 k] M R := by
  unfold tup2 firstAT firstAC inA at h
  refine does_fn tab_ok Tryz.func43 rfl (by kernel_rfl) (by kernel_rfl) Tryz.ntmps43 Tryz.results43 rfl ?_
  simp (disch := omega)
  intro b3 hb3
  simp (disch := omega)
  intro b4 hb4
  have n4 := hb4
  rw [put_none] at n4
  simp (disch := omega)
  intro b5 hb5
  have n5 := hb5
  rw [put_none, put_none] at n5
  have hs5 : Sub M (((M.put b3 (.cells true [.int .i64 m] 1)).put b4 (.cells true [.int .i64 j] 1)).put b5 (.cells true [.int .i64 k] 1)) := (((Sub.refl _).put hb3 _).putN hb4 _).putN hb5 _
  simp (disch := omega) [n4.1, Ne.symm n4.1, n5.1, Ne.symm n5.1, n5.2.1, Ne.symm n5.2.1]
  refine within_does m 0 16 _ _ ?_
  by_cases h1 : 0 ≤ m ∧ m ≤ 16
  · rw [decide_eq_true h1, Bool.true_and] at h
    rw [decide_eq_true h1]
    simp (disch := omega) [n4.1, Ne.symm n4.1, n5.1, Ne.symm n5.1, n5.2.1, Ne.symm n5.2.1]
    refine within_does j 1 4 _ _ ?_
    by_cases h2 : 1 ≤ j ∧ j ≤ 4
    · rw [decide_eq_true h2, Bool.true_and] at h
      rw [decide_eq_true h2]
      simp (disch := omega) [n4.1, Ne.symm n4.1, n5.1, Ne.symm n5.1, n5.2.1, Ne.symm n5.2.1]
      refine within_does k 2 4 _ _ ?_
      by_cases h3 : 2 ≤ k ∧ k ≤ 4
      · rw [decide_eq_true h3, if_pos rfl, if_pos rfl] at h
        rw [decide_eq_true h3]
        obtain ⟨m, rfl⟩ : ∃ n : Nat, m = n := ⟨m.toNat, by omega⟩
        obtain ⟨j, rfl⟩ : ∃ n : Nat, j = n := ⟨j.toNat, by omega⟩
        obtain ⟨k, rfl⟩ : ∃ n : Nat, k = n := ⟨k.toNat, by omega⟩
        unfold firstA at h
        simp only [Int.toNat_natCast] at h
        simp (disch := omega)
        intro b8 hb8
        have n8 := hb8
        rw [put_none, put_none, put_none] at n8
        simp (disch := omega)
        refine find1_does m j k (by omega) (by omega) (by omega) (by omega) b3 b4 b5 b8 m [] _ _ (by simp) rfl ?_ ?_ ?_ ?_ ?_
        · simp (disch := omega) [n4.1, Ne.symm n4.1, n5.1, Ne.symm n5.1, n5.2.1, Ne.symm n5.2.1, n8.1, Ne.symm n8.1, n8.2.1, Ne.symm n8.2.1, n8.2.2.1, Ne.symm n8.2.2.1]
        · simp (disch := omega) [n4.1, Ne.symm n4.1, n5.1, Ne.symm n5.1, n5.2.1, Ne.symm n5.2.1, n8.1, Ne.symm n8.1, n8.2.1, Ne.symm n8.2.1, n8.2.2.1, Ne.symm n8.2.2.1]
        · simp (disch := omega) [n4.1, Ne.symm n4.1, n5.1, Ne.symm n5.1, n5.2.1, Ne.symm n5.2.1, n8.1, Ne.symm n8.1, n8.2.1, Ne.symm n8.2.1, n8.2.2.1, Ne.symm n8.2.2.1]
        · simp (disch := omega)
        · have hs8 := hs5.putN hb8 (.cells true [.func (.func 94) #[] #[.pointer (some ⟨b3, 0, none⟩), .pointer (some ⟨b4, 0, none⟩), .pointer (some ⟨b5, 0, none⟩), .pointer (some ⟨b8, 0, none⟩)]] 1)
          cases hf : findA m j k m [] with
          | none =>
            rw [hf] at h
            unfold optV
            simp (disch := omega)
            exact ret_sub hs8 h
          | some x =>
            rw [hf] at h
            unfold optV
            simp (disch := omega)
            exact ret_sub hs8 h
      · rw [decide_eq_false h3] at h
        rw [decide_eq_false h3]
        simp (disch := omega)
        exact ret_sub hs5 h
    · rw [decide_eq_false h2, Bool.false_and] at h
      rw [decide_eq_false h2]
      simp (disch := omega)
      exact ret_sub hs5 h
  · rw [decide_eq_false h1, Bool.false_and] at h
    rw [decide_eq_false h1]
    simp (disch := omega)
    exact ret_sub hs5 h
end Go.Proofs.YthpcojnpiggaiaaGreat

/- Plain law: balanced words, abelian periods of periods, first words without abelian powers. -/
import Derived.Test.YthpcojnpiggaiaaGreatCQ
import Derived.Test.YthpcojnpiggaiaaGreatC118
import Derived.Test.YthpcojnpiggaiaaGreatC19
import Derived.Test.YthpcojnpiggaiaaGreatC44
import Derived.Test.YthpcojnpiggaiaaGreatCH
namespace Go.Proofs.YthpcojnpiggaiaaGreat
set_option linter.unusedVariables false

theorem srt_le9 (l : List (List UInt8)) : (srt l).length ≤ l.length := by
  rw [← putAll_srt]
  have := putAll_len l []
  simpa using this
theorem acL_le {w : List UInt8} {m : Nat} (hm : m ≤ w.length) : (acL w m).length ≤ (facL w m).length := by
  rw [← acL_fac hm]
  have := srt_le9 ((facL w m).map srtL)
  rwa [List.length_map] at this
theorem acL_strict (w : List UInt8) (m : Nat) : Strict (acL w m) := srt_strict _
theorem acL_mem {w x : List UInt8} {m : Nat} (h : x ∈ acL w m) : ∃ i, i < w.length - m + 1 ∧ x = srtL (seg w i m) := by
  unfold acL at h
  rw [mem_srt9, List.mem_map] at h
  obtain ⟨u, hu, rfl⟩ := h
  obtain ⟨i, hi, rfl⟩ := List.mem_map.1 hu
  exact ⟨i, List.mem_range.1 hi, rfl⟩
theorem spr_ge (best : Int) (lo hi : Nat → Int) : ∀ n, best ≤ spr best lo hi n ∧ ∀ k, k < n → hi k - lo k ≤ spr best lo hi n
  | 0 => ⟨Int.le_refl _, fun k h => by omega⟩
  | n + 1 => by
    obtain ⟨h1, h2⟩ := spr_ge best lo hi n
    have e : spr best lo hi (n + 1) = mxF (spr best lo hi n) (hi n - lo n) := rfl
    have hm : spr best lo hi n ≤ mxF (spr best lo hi n) (hi n - lo n) ∧ hi n - lo n ≤ mxF (spr best lo hi n) (hi n - lo n) := by unfold mxF; split <;> omega
    rw [e]
    refine ⟨by omega, fun k hk => ?_⟩
    by_cases ek : k = n
    · subst ek; exact hm.2
    · have := h2 k (by omega); omega
theorem balM_mono (w : List UInt8) {m : Nat} : ∀ n, m ≤ n → balM w m ≤ balM w n
  | 0, h => by
    have : m = 0 := by omega
    subst this; exact Int.le_refl _
  | n + 1, h => by
    by_cases e : m = n + 1
    · subst e; exact Int.le_refl _
    · have h1 := balM_mono w n (by omega : m ≤ n)
      have h2 := (spr_ge (balM w n) (loW w (n + 1)) (hiW w (n + 1)) 5).1
      exact Int.le_trans h1 h2
theorem seg_lohi {w : List UInt8} {i m : Nat} (hi : i < w.length - m + 1) (hm : m ≤ w.length) (k : Nat) : loW w m k ≤ cnt (seg w i m) k ∧ cnt (seg w i m) k ≤ hiW w m k := by
  obtain ⟨a1, a2, _⟩ := fold_mn k (segsF w m (w.length - m)) (cnt (w.take m) k)
  obtain ⟨b1, b2, _⟩ := fold_mx k (segsF w m (w.length - m)) (cnt (w.take m) k)
  cases i with
  | zero => rw [seg_zero]; exact ⟨a1, b1⟩
  | succ i =>
    have hmem : seg w (i + 1) m ∈ segsF w m (w.length - m) := List.mem_map.2 ⟨i, List.mem_range.2 (by omega), rfl⟩
    exact ⟨a2 _ hmem, b2 _ hmem⟩
theorem bal_near {w : List UInt8} {m n i j k : Nat} (hm : 1 ≤ m) (hmn : m ≤ n) (hml : m ≤ w.length) (hi : i < w.length - m + 1) (hj : j < w.length - m + 1) (hk : k < 5) (hb : balM w n ≤ 1) : cnt (seg w i m) k - cnt (seg w j m) k ≤ 1 := by
  obtain ⟨p, rfl⟩ : ∃ p, m = p + 1 := ⟨m - 1, by omega⟩
  have h1 := balM_mono w n hmn
  have h2 := (spr_ge (balM w p) (loW w (p + 1)) (hiW w (p + 1)) 5).2 k hk
  have e : spr (balM w p) (loW w (p + 1)) (hiW w (p + 1)) 5 = balM w (p + 1) := rfl
  rw [e] at h2
  have h3 := (seg_lohi hi hml k).2
  have h4 := (seg_lohi hj hml k).1
  omega
theorem cnt_two (l : List UInt8) : cnt l 0 + cnt l 1 = (l.countP fun u => (u.toNat == 97) || (u.toNat == 98) : Nat) := by
  unfold cnt
  induction l with
  | nil => rfl
  | cons u l ih =>
    simp only [List.countP_cons]
    by_cases h1 : u.toNat = 97
    · have h2 : ¬ u.toNat = 98 := by omega
      simp [h1] at ih ⊢
      omega
    · by_cases h2 : u.toNat = 98
      · simp [h2] at ih ⊢
        omega
      · simp [h1, h2] at ih ⊢
        omega
theorem two_all {w : List UInt8} (h : cnt w 0 + cnt w 1 = (w.length : Int)) : ∀ u ∈ w, u.toNat = 97 ∨ u.toNat = 98 := by
  rw [cnt_two] at h
  have h1 : (w.countP fun u => (u.toNat == 97) || (u.toNat == 98)) = w.length := by omega
  rw [List.countP_eq_length] at h1
  intro u hu
  have := h1 u hu
  simpa using this
theorem two_counts {l : List UInt8} (h : ∀ u ∈ l, u.toNat = 97 ∨ u.toNat = 98) : cnt l 1 = (l.length : Int) - cnt l 0 ∧ cnt l 2 = 0 ∧ cnt l 3 = 0 ∧ cnt l 4 = 0 := by
  have h1 : (l.countP fun u => (u.toNat == 97) || (u.toNat == 98)) = l.length := by
    rw [List.countP_eq_length]
    intro u hu
    have := h u hu
    simpa using this
  have h2 := cnt_two l
  have hz : ∀ k, 2 ≤ k → cnt l k = 0 := fun k hk => by
    unfold cnt
    have : (l.countP fun u => u.toNat == 97 + k) = 0 := by
      rw [List.countP_eq_zero]
      intro u hu
      have := h u hu
      rw [beq_iff_eq]; omega
    rw [this]; rfl
  exact ⟨by omega, hz 2 (by omega), hz 3 (by omega), hz 4 (by omega)⟩
theorem two_same {u v : List UInt8} (hu : ∀ x ∈ u, x.toNat = 97 ∨ x.toNat = 98) (hv : ∀ x ∈ v, x.toNat = 97 ∨ x.toNat = 98) (hl : u.length = v.length) (h0 : cnt u 0 = cnt v 0) : counts u = counts v := by
  obtain ⟨a1, a2, a3, a4⟩ := two_counts hu
  obtain ⟨b1, b2, b3, b4⟩ := two_counts hv
  unfold counts
  rw [h0, a1, b1, a2, b2, a3, b3, a4, b4, hl, h0]
theorem seg_mem {w : List UInt8} {i m : Nat} {u : UInt8} (h : u ∈ seg w i m) : u ∈ w := List.mem_of_mem_take (List.mem_of_mem_drop h)
/-- Balanced words of two letters have at most two vectors for a length. -/
theorem bal_two {w : List UInt8} (hw : isWord w = true) (hb : balM w w.length ≤ 1) (h2 : cnt w 0 + cnt w 1 = (w.length : Int)) {m : Nat} (hm : m ≤ w.length) : (acL w m).length ≤ 2 := by
  have hall := isWord_all hw
  have hst := acL_strict w m
  have hmem := fun x (h : x ∈ acL w m) => acL_mem h
  have htw := two_all h2
  refine Nat.not_lt.1 fun h3 => ?_
  rcases hL : acL w m with _ | ⟨x, _ | ⟨y, _ | ⟨z, l⟩⟩⟩
  · rw [hL] at h3; simp at h3
  · rw [hL] at h3; simp at h3
  · rw [hL] at h3; simp at h3
  · rw [hL] at hst hmem
    have hst : List.Pairwise _ _ := hst
    rw [List.pairwise_cons, List.pairwise_cons] at hst
    have nxy : x ≠ y := fun e => by have := hst.1 y (by simp); rw [e] at this; exact List.lt_irrefl _ this
    have nxz : x ≠ z := fun e => by have := hst.1 z (by simp); rw [e] at this; exact List.lt_irrefl _ this
    have nyz : y ≠ z := fun e => by have := hst.2.1 z (by simp); rw [e] at this; exact List.lt_irrefl _ this
    obtain ⟨i, hi, rfl⟩ := hmem x (by simp)
    obtain ⟨j, hj, rfl⟩ := hmem y (by simp)
    obtain ⟨k, hk, rfl⟩ := hmem z (by simp)
    have hsame : ∀ i j, i < w.length - m + 1 → j < w.length - m + 1 → cnt (seg w i m) 0 = cnt (seg w j m) 0 → srtL (seg w i m) = srtL (seg w j m) := fun i j hi hj h0 => by
      have hc := two_same (fun u hu => htw u (seg_mem hu)) (fun u hu => htw u (seg_mem hu)) (by rw [seg_len (by omega), seg_len (by omega)]) h0
      have := alike_srt (w := seg w i m) (u := seg w j m) (seg_all hall _ _) (seg_all hall _ _)
      rw [hc, beq_self_eq_true] at this
      exact eq_of_beq this.symm
    have n1 : cnt (seg w i m) 0 ≠ cnt (seg w j m) 0 := fun e => nxy (hsame i j hi hj e)
    have n2 : cnt (seg w i m) 0 ≠ cnt (seg w k m) 0 := fun e => nxz (hsame i k hi hk e)
    have n3 : cnt (seg w j m) 0 ≠ cnt (seg w k m) 0 := fun e => nyz (hsame j k hj hk e)
    by_cases hm0 : m = 0
    · subst hm0
      have hz : ∀ i, seg w i 0 = [] := fun i => by
        unfold seg
        exact List.drop_eq_nil_of_le (by rw [List.length_take]; omega)
      rw [hz, hz] at n1
      exact n1 rfl
    · have near := fun i j hi hj => bal_near (w := w) (m := m) (n := w.length) (i := i) (j := j) (k := 0) (by omega) hm hm hi hj (by omega) hb
      have q1 := near i j hi hj
      have q2 := near j i hj hi
      have q3 := near i k hi hk
      have q4 := near k i hk hi
      have q5 := near j k hj hk
      have q6 := near k j hk hj
      omega
/-! Periods are abelian periods. -/
theorem hp_seg {w : List UInt8} {q : Nat} (h : hp w q = true) (hq : q ≤ w.length) : seg w q (w.length - q) = seg w 0 (w.length - q) := by
  unfold hp at h
  have h := eq_of_beq h
  rw [seg_zero, ← h]
  unfold seg
  rw [show q + (w.length - q) = w.length by omega, List.take_length]
theorem hp_shift {w : List UInt8} {q : Nat} (h : hp w q = true) (hq : q ≤ w.length) {a m : Nat} (ha : a + q + m ≤ w.length) : seg w (a + q) m = seg w a m := by
  have h1 := seg_seg (w := w) (i := q) (n := w.length - q) (a := a) (m := m) (by omega)
  have h2 := seg_seg (w := w) (i := 0) (n := w.length - q) (a := a) (m := m) (by omega)
  rw [hp_seg h hq, h2, Nat.zero_add] at h1
  rw [Nat.add_comm a q]
  exact h1.symm
theorem hp_many {w : List UInt8} {q : Nat} (h : hp w q = true) (hq : q ≤ w.length) {m : Nat} : ∀ i, i * q + m ≤ w.length → seg w (i * q) m = seg w 0 m
  | 0, _ => by rw [Nat.zero_mul]
  | i + 1, hi => by
    rw [Nat.succ_mul] at hi ⊢
    rw [hp_shift h hq hi]
    exact hp_many h hq i (by omega)
theorem under_of {xs ys : List Int} (h : ∀ i, i < xs.length → xs.getD i 0 ≤ ys.getD i 0) : under xs ys = true := by
  unfold under underTo
  rw [List.all_eq_true]
  intro i hi
  exact decide_eq_true (h i (List.mem_range.1 hi))
theorem perB_hp {w : List UInt8} {q : Nat} (h : hp w q = true) (hq0 : 1 ≤ q) (hq : q ≤ w.length) : perB w 0 q = true := by
  have hkq : w.length / q * q ≤ w.length := Nat.div_mul_le_self _ _
  have hkr : w.length < w.length / q * q + q := by
    have := Nat.lt_div_mul_add (a := w.length) (b := q) (by omega)
    exact this
  unfold perB
  rw [Nat.sub_zero, Nat.zero_add, Nat.zero_add, decide_eq_true hq, Bool.true_and, Bool.and_eq_true, Bool.and_eq_true]
  refine ⟨?_, ?_, ?_⟩
  · unfold alikeTo
    rw [List.all_eq_true]
    intro i hi
    have hi := List.mem_range.1 hi
    have h1 : (i + 1) * q ≤ w.length / q * q := Nat.mul_le_mul_right _ (by omega)
    rw [Nat.succ_mul] at h1
    rw [seg_seg (by omega), seg_seg (by omega), Nat.zero_add, Nat.zero_add, hp_many h hq i (by omega)]
    exact beq_self_eq_true _
  · refine under_of fun i hi => ?_
    rw [List.take_zero]
    have hi : i < 5 := hi
    rw [counts_getD _ hi, counts_getD _ hi]
    exact (Int.natCast_nonneg _ : (0 : Int) ≤ _)
  · refine under_of fun i hi => ?_
    have hi : i < 5 := hi
    rw [counts_getD _ hi, counts_getD _ hi]
    have e1 : w.drop (w.length / q * q) = seg w (w.length / q * q) (w.length - w.length / q * q) := by
      unfold seg
      rw [show w.length / q * q + (w.length - w.length / q * q) = w.length by omega, List.take_length]
    rw [e1, hp_many h hq (w.length / q) (by omega), seg_zero, seg_zero]
    have e2 : w.take (w.length - w.length / q * q) = (w.take q).take (w.length - w.length / q * q) := by rw [List.take_take, Nat.min_eq_left (by omega)]
    rw [e2]
    unfold cnt
    exact Int.ofNat_le.2 (List.Sublist.countP_le (List.take_sublist _ _))
theorem perL_at {w : List UInt8} {z : Int} (h : z ∈ perL w) : ∃ q : Nat, z = q ∧ 1 ≤ q ∧ q ≤ w.length ∧ hp w q = true := by
  unfold perL perTo at h
  obtain ⟨q, hq, rfl⟩ := List.mem_map.1 h
  rw [List.mem_filter, List.mem_range] at hq
  exact ⟨q + 1, rfl, by omega, by omega, hq.2⟩
theorem perR_of {w : List UInt8} (hw : isWord w = true) {q : Nat} (h : hp w q = true) (hq0 : 1 ≤ q) (hq : q ≤ w.length) : [(0 : Int), (q : Int)] ∈ perR w := by
  unfold perR rowsPT
  rw [hw, if_pos rfl]
  refine List.mem_flatMap.2 ⟨q - 1, List.mem_range.2 (by omega), ?_⟩
  rw [show q - 1 + 1 = q by omega]
  unfold rowsP
  exact List.mem_map.2 ⟨0, List.mem_filter.2 ⟨List.mem_range.2 (by omega), perB_hp h hq0 hq⟩, rfl⟩
theorem perL_pos {w : List UInt8} (h : 0 < w.length) : 1 ≤ (perL w).length := by
  have : ((w.length : Nat) : Int) ∈ perL w := by
    unfold perL perTo
    refine List.mem_map.2 ⟨w.length - 1, List.mem_filter.2 ⟨List.mem_range.2 (by omega), ?_⟩, by omega⟩
    rw [show w.length - 1 + 1 = w.length by omega]
    unfold hp
    rw [List.drop_length, Nat.sub_self, List.take_zero]
    rfl
  exact List.length_pos_of_mem this
theorem perL_le (w : List UInt8) : (perL w).length ≤ w.length := by
  unfold perL perTo
  rw [List.length_map]
  exact Nat.le_trans (List.length_filter_le _ _) (by rw [List.length_range]; exact Nat.le_refl _)
theorem perR_pos {w : List UInt8} (hw : isWord w = true) (h : 0 < w.length) : 1 ≤ (perR w).length := by
  obtain ⟨z, l, hz⟩ : ∃ z l, perL w = z :: l := by
    cases hp : perL w with
    | nil => have := perL_pos h; rw [hp] at this; simp at this
    | cons z l => exact ⟨z, l, rfl⟩
  obtain ⟨q, rfl, h1, h2, h3⟩ := perL_at (w := w) (z := z) (by rw [hz]; exact List.mem_cons_self)
  exact List.length_pos_of_mem (perR_of hw h3 h1 h2)
theorem perR_row9 {w : List UInt8} : ∀ r ∈ perR w, r.length = 2 := by
  unfold perR
  split
  · intro r hr
    obtain ⟨p, _, hr⟩ := List.mem_flatMap.1 hr
    obtain ⟨q, _, rfl⟩ := List.mem_map.1 hr
    rfl
  · simp
/-! First words have no abelian powers. -/
def goodA (k : Nat) (x : List UInt8) : Prop := ∀ n, n ≤ x.length → endsA (x.take n) k = false
theorem goodA_nil (k : Nat) : goodA k [] := fun n hn => by
  have : n = 0 := Nat.le_zero.1 hn
  subst this
  unfold endsA endsTo
  simp
theorem goodA_snoc {k : Nat} {w : List UInt8} {u : UInt8} (h : goodA k w) (he : endsA (w ++ [u]) k = false) : goodA k (w ++ [u]) := fun n hn => by
  by_cases e : n ≤ w.length
  · rw [List.take_append_of_le_length e]; exact h n e
  · rw [List.take_of_length_le (by rw [List.length_append, List.length_singleton] at hn ⊢; omega)]; exact he
theorem findA_good {m j k : Nat} (hj : j ≤ 4) : ∀ (d : Nat) (w x : List UInt8), w.all isL = true → goodA k w → findA m j k d w = some x → x.length = m ∧ x.all isL = true ∧ goodA k x
  | 0, w, x, hw, hg, hx => by
    unfold findA at hx
    split at hx
    · injection hx with hx; subst hx; exact ⟨by assumption, hw, hg⟩
    · cases hx
  | d + 1, w, x, hw, hg, hx => by
    unfold findA at hx
    split at hx
    · injection hx with hx; subst hx; exact ⟨by assumption, hw, hg⟩
    · unfold tryF at hx
      obtain ⟨c, hc, hs⟩ := List.exists_of_findSome?_eq_some hx
      have hc := List.mem_range.1 hc
      unfold stepF at hs
      by_cases he : endsA (w ++ [ltr c]) k = true
      · rw [if_pos he] at hs; cases hs
      · rw [if_neg he] at hs
        refine findA_good hj d _ x ?_ (goodA_snoc hg (by simpa using he)) hs
        rw [List.all_append, hw, Bool.true_and, List.all_cons, List.all_nil, Bool.and_true, isL_letter (by omega)]
theorem good_pow {k : Nat} (hk : 1 ≤ k) {x : List UInt8} (h : goodA k x) : rowsTo x k x.length = [] := by
  unfold rowsTo
  rw [List.flatMap_eq_nil_iff]
  intro i hi
  have hi := List.mem_range.1 hi
  unfold rowsAt
  rw [List.map_eq_nil_iff, List.filter_eq_nil_iff]
  intro m hm ha
  have hm := List.mem_range.1 hm
  have hkm : k * (m + 1) ≤ x.length - i := Nat.le_trans (Nat.mul_le_mul_left _ (by omega)) (Nat.mul_div_le _ _)
  have hg := h (i + k * (m + 1)) (by omega)
  have hl : (x.take (i + k * (m + 1))).length = i + k * (m + 1) := by rw [List.length_take]; omega
  unfold endsA at hg
  rw [hl] at hg
  have hmk : m < (i + k * (m + 1)) / k := by
    rw [Nat.lt_iff_add_one_le, Nat.le_div_iff_mul_le (by omega), Nat.mul_comm]; omega
  have hab : abel (x.take (i + k * (m + 1))) ((x.take (i + k * (m + 1))).length - k * (m + 1)) (m + 1) k = true := by
    rw [hl, show i + k * (m + 1) - k * (m + 1) = i by omega]
    unfold abel at ha ⊢
    have e : seg (x.take (i + k * (m + 1))) i (k * (m + 1)) = seg x i (k * (m + 1)) := by
      unfold seg
      rw [List.take_take, Nat.min_self]
    rw [e]
    exact ha
  rw [endsTo_yes hmk hab] at hg
  cases hg
theorem first_pow {m j k : Int} (h : firstAC m j k = 0) : powC (firstAT m j k) k = 0 ∧ powR (firstAT m j k) k = [] ∧ ((firstAT m j k).length : Int) = m := by
  unfold firstAC at h
  unfold firstAT
  cases hin : inA m j k
  · rw [hin, if_neg (by decide)] at h; omega
  · rw [hin, if_pos rfl] at h
    rw [if_pos rfl]
    unfold inA at hin
    simp only [Bool.and_eq_true, decide_eq_true_eq] at hin
    obtain ⟨⟨m0, m1⟩, ⟨j0, j1⟩, k0, k1⟩ := hin
    unfold firstA at h ⊢
    cases hf : findA m.toNat j.toNat k.toNat m.toNat [] with
    | none => rw [hf] at h; exact absurd h (by decide)
    | some x =>
      obtain ⟨h1, h2, h3⟩ := findA_good (by omega) _ _ _ rfl (goodA_nil _) hf
      have hw : isWord x = true := by unfold isWord; rw [h2, decide_eq_true (by omega)]; rfl
      have e : foundT (some x) = x := rfl
      rw [e]
      unfold powC powR
      rw [hw, if_pos rfl, if_pos rfl, if_pos (by omega), if_pos (by omega)]
      exact ⟨rfl, good_pow (by omega) h3, by omega⟩
end Go.Proofs.YthpcojnpiggaiaaGreat

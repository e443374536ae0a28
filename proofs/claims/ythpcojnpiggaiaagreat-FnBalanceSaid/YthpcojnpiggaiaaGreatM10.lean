/- The plain law of balanced words of two letters. -/
import Derived.Test.YthpcojnpiggaiaaGreatM7
import Derived.Test.YthpcojnpiggaiaaGreatC16
namespace Go.Proofs.YthpcojnpiggaiaaGreat
open Go
set_option linter.unusedSimpArgs false
set_option linter.unusedVariables false

theorem hi_lo_iff {k : Nat} {L : List (List UInt8)} {b b' : Int} {u0 v0 : List UInt8} (hu : u0 ∈ L) (hv : v0 ∈ L) (hb : b ≤ cnt u0 k) (hb' : cnt v0 k ≤ b') :
    L.foldl (fun a u => mxF a (cnt u k)) b - L.foldl (fun a u => mnF a (cnt u k)) b' ≤ 1 ↔ ∀ u ∈ L, ∀ v ∈ L, cnt u k - cnt v k ≤ 1 := by
  obtain ⟨a1, a2, a3⟩ := fold_mx k L b
  obtain ⟨b1, b2, b3⟩ := fold_mn k L b'
  constructor
  · intro h u hu v hv
    have := a2 u hu
    have := b2 v hv
    omega
  · intro h
    have h1 := a2 u0 hu
    have h2 := b2 v0 hv
    rcases a3 with e | ⟨u, hu', e⟩
    · rcases b3 with f | ⟨v, hv', f⟩
      · have := h u0 hu v0 hv; omega
      · have := h u0 hu v hv'; omega
    · rcases b3 with f | ⟨v, hv', f⟩
      · have := h u hu' v0 hv; omega
      · have := h u hu' v hv'; omega
/-- Do the factors of length m differ by at most one in the letter k? -/
def Spr1 (w : List UInt8) (m k : Nat) : Prop := ∀ u ∈ segsA w m (w.length - m + 1), ∀ v ∈ segsA w m (w.length - m + 1), cnt u k - cnt v k ≤ 1
theorem first_mem (w : List UInt8) (m : Nat) : w.take m ∈ segsA w m (w.length - m + 1) := List.mem_map.2 ⟨0, List.mem_range.2 (by omega), seg_zero w m⟩
theorem wide_iff {w : List UInt8} {m : Nat} (hm : m ≤ w.length) (k : Nat) : hiW w m k - loW w m k ≤ 1 ↔ Spr1 w m k := by
  obtain ⟨e1, e2⟩ := bal_same (w := w) (m := m) (L := segsA w m (w.length - m + 1)) hm (fun u => Iff.rfl)
  rw [← e1, ← e2]
  unfold foldG
  exact hi_lo_iff (first_mem w m) (first_mem w m) (Int.le_refl _) (Int.le_refl _)
theorem spr_le {best : Int} {lo hi : Nat → Int} (i : Nat) : spr best lo hi i ≤ 1 ↔ best ≤ 1 ∧ ∀ k, k < i → hi k - lo k ≤ 1 := by
  induction i with
  | zero => simp [spr]
  | succ i ih =>
    have e : spr best lo hi (i + 1) = mxF (spr best lo hi i) (hi i - lo i) := rfl
    have hm : mxF (spr best lo hi i) (hi i - lo i) ≤ 1 ↔ spr best lo hi i ≤ 1 ∧ hi i - lo i ≤ 1 := by unfold mxF; split <;> omega
    rw [e, hm, ih]
    constructor
    · rintro ⟨⟨h1, h2⟩, h3⟩
      refine ⟨h1, fun k hk => ?_⟩
      by_cases hki : k = i
      · rw [hki]; exact h3
      · exact h2 k (by omega)
    · rintro ⟨h1, h2⟩
      exact ⟨⟨h1, fun k hk => h2 k (by omega)⟩, h2 i (by omega)⟩
theorem balM_le {w : List UInt8} : ∀ n, n ≤ w.length → (balM w n ≤ 1 ↔ ∀ m, 1 ≤ m → m ≤ n → ∀ k, k < 5 → Spr1 w m k)
  | 0, _ => by
    constructor
    · intro _ m h1 h2; omega
    · intro _; unfold balM; omega
  | n + 1, hn => by
    have e : balM w (n + 1) = spr (balM w n) (loW w (n + 1)) (hiW w (n + 1)) 5 := rfl
    rw [e, spr_le, balM_le n (by omega)]
    constructor
    · rintro ⟨h1, h2⟩ m hm1 hm2 k hk
      by_cases hmn : m = n + 1
      · rw [hmn]; exact (wide_iff hn k).1 (h2 k hk)
      · exact h1 m hm1 (by omega) k hk
    · intro h
      exact ⟨fun m h1 h2 k hk => h m h1 (by omega) k hk, fun k hk => (wide_iff hn k).2 (h (n + 1) (by omega) (Nat.le_refl _) k hk)⟩
/-- Words of the letters a and b. -/
def AB (w : List UInt8) : Prop := ∀ u ∈ w, u = 97 ∨ u = 98
theorem cnt_ab : ∀ {u : List UInt8}, AB u → cnt u 0 = u.length - cnt u 1 ∧ cnt u 2 = 0 ∧ cnt u 3 = 0 ∧ cnt u 4 = 0
  | [], _ => ⟨rfl, rfl, rfl, rfl⟩
  | c :: l, h => by
    obtain ⟨h1, h2, h3, h4⟩ := cnt_ab (u := l) fun x hx => h x (List.mem_cons_of_mem _ hx)
    unfold cnt at *
    simp only [List.countP_cons, List.length_cons]
    rcases h c List.mem_cons_self with rfl | rfl
    · have f0 : ((97 : UInt8).toNat == 97 + 0) = true := rfl
      have f1 : ((97 : UInt8).toNat == 97 + 1) = false := rfl
      have f2 : ((97 : UInt8).toNat == 97 + 2) = false := rfl
      have f3 : ((97 : UInt8).toNat == 97 + 3) = false := rfl
      have f4 : ((97 : UInt8).toNat == 97 + 4) = false := rfl
      simp only [f0, f1, f2, f3, f4, if_true, Bool.false_eq_true, if_false]
      omega
    · have f0 : ((98 : UInt8).toNat == 97 + 0) = false := rfl
      have f1 : ((98 : UInt8).toNat == 97 + 1) = true := rfl
      have f2 : ((98 : UInt8).toNat == 97 + 2) = false := rfl
      have f3 : ((98 : UInt8).toNat == 97 + 3) = false := rfl
      have f4 : ((98 : UInt8).toNat == 97 + 4) = false := rfl
      simp only [f0, f1, f2, f3, f4, if_true, Bool.false_eq_true, if_false]
      omega
theorem seg_ab {w : List UInt8} (h : AB w) (t m : Nat) : AB (seg w t m) := fun u hu => h u (List.mem_of_mem_take (List.mem_of_mem_drop hu))
theorem sp_ab {w : List UInt8} (h : AB w) {m : Nat} (hm : m ≤ w.length) : (∀ k, k < 5 → Spr1 w m k) ↔ Spr1 w m 1 := by
  constructor
  · intro hk; exact hk 1 (by omega)
  · intro h1 k hk u hu v hv
    have huv := h1 u hu v hv
    have hvu := h1 v hv u hu
    obtain ⟨i, hi, rfl⟩ := List.mem_map.1 hu
    obtain ⟨j, hj, rfl⟩ := List.mem_map.1 hv
    have hi := List.mem_range.1 hi
    have hj := List.mem_range.1 hj
    have l1 := seg_len (w := w) (a := i) (m := m) (by omega)
    have l2 := seg_len (w := w) (a := j) (m := m) (by omega)
    obtain ⟨p0, p2, p3, p4⟩ := cnt_ab (seg_ab h i m)
    obtain ⟨q0, q2, q3, q4⟩ := cnt_ab (seg_ab h j m)
    have : k = 0 ∨ k = 1 ∨ k = 2 ∨ k = 3 ∨ k = 4 := by omega
    rcases this with rfl | rfl | rfl | rfl | rfl <;> omega
/-- The reference's test. -/
def loB (w : List UInt8) (n i : Nat) : Int := (segsA w n i).foldl (fun a u => mnF a (cnt u 1)) n
def hiB (w : List UInt8) (n i : Nat) : Int := (segsA w n i).foldl (fun a u => mxF a (cnt u 1)) 0
theorem loB_succ (w : List UInt8) (n i : Nat) : loB w n (i + 1) = mnF (loB w n i) (cnt (seg w i n) 1) := by unfold loB; rw [segsA_succ, List.foldl_append]; rfl
theorem hiB_succ (w : List UInt8) (n i : Nat) : hiB w n (i + 1) = mxF (hiB w n i) (cnt (seg w i n) 1) := by unfold hiB; rw [segsA_succ, List.foldl_append]; rfl
def okB8 (w : List UInt8) (n : Nat) : Bool := decide (hiB w n (w.length - n + 1) - loB w n (w.length - n + 1) ≤ 1)
def balTo (w : List UInt8) (n : Nat) : Bool := (List.range n).all fun m => okB8 w (m + 1)
def balB2 (w : List UInt8) : Bool := balTo w w.length
theorem balTo_succ (w : List UInt8) (n : Nat) : balTo w (n + 1) = (balTo w n && okB8 w (n + 1)) := by simp [balTo, List.range_succ]
theorem balTo_no {w : List UInt8} {n m : Nat} (h : n < m) (hh : okB8 w (n + 1) = false) : balTo w m = false := by
  unfold balTo
  rw [List.all_eq_false]
  exact ⟨n, List.mem_range.2 h, by simp [hh]⟩
theorem okB8_iff {w : List UInt8} {n : Nat} (hn : n ≤ w.length) : okB8 w n = true ↔ Spr1 w n 1 := by
  unfold okB8
  rw [decide_eq_true_eq]
  unfold hiB loB
  have hf := cnt_le (w.take n) 1
  have hl : (w.take n).length = n := by rw [List.length_take]; omega
  exact hi_lo_iff (first_mem w n) (first_mem w n) hf.1 (by omega)
theorem balB2_iff (w : List UInt8) : balB2 w = true ↔ ∀ m, 1 ≤ m → m ≤ w.length → Spr1 w m 1 := by
  unfold balB2 balTo
  rw [List.all_eq_true]
  constructor
  · intro h m h1 h2
    have := h (m - 1) (List.mem_range.2 (by omega))
    rw [show m - 1 + 1 = m by omega] at this
    exact (okB8_iff h2).1 this
  · intro h m hm
    have := List.mem_range.1 hm
    exact (okB8_iff (by omega)).2 (h (m + 1) (by omega) (by omega))
theorem bal_is {w : List UInt8} (h : AB w) : decide (balM w w.length ≤ 1) = balB2 w := by
  rw [Bool.eq_iff_iff, decide_eq_true_eq, balM_le _ (Nat.le_refl _), balB2_iff]
  constructor
  · intro hh m h1 h2; exact (sp_ab h h2).1 (hh m h1 h2)
  · intro hh m h1 h2; exact (sp_ab h h2).2 (hh m h1 h2)
theorem seg_app (w v : List UInt8) {t m : Nat} (h : t + m ≤ w.length) : seg (w ++ v) t m = seg w t m := by
  unfold seg
  rw [List.take_append_of_le_length h]
theorem balB2_pre {w v : List UInt8} (h : balB2 (w ++ v) = true) : balB2 w = true := by
  rw [balB2_iff] at h ⊢
  intro m h1 h2 u hu x hx
  have hsub : ∀ y, y ∈ segsA w m (w.length - m + 1) → y ∈ segsA (w ++ v) m ((w ++ v).length - m + 1) := by
    intro y hy
    obtain ⟨t, ht, rfl⟩ := List.mem_map.1 hy
    have ht := List.mem_range.1 ht
    exact List.mem_map.2 ⟨t, List.mem_range.2 (by rw [List.length_append]; omega), seg_app w v (by omega)⟩
  exact h m h1 (by rw [List.length_append]; omega) u (hsub u hu) x (hsub x hx)
/-- Balanced words of m letters, one letter after the other. -/
def balL : Nat → List (List UInt8)
  | 0 => [[]]
  | m + 1 => (growA (balL m) 2).filter balB2
theorem grow_filter : ∀ l : List (List UInt8), (growA (l.filter balB2) 2).filter balB2 = (growA l 2).filter balB2
  | [] => rfl
  | w :: l => by
    have ih := grow_filter l
    have e : growA (w :: l) 2 = grow1 w 2 ++ growA l 2 := by simp [growA]
    rw [e, List.filter_append, ← ih]
    cases hb : balB2 w with
    | true =>
      rw [List.filter_cons, hb, if_pos rfl]
      have e2 : growA (w :: l.filter balB2) 2 = grow1 w 2 ++ growA (l.filter balB2) 2 := by simp [growA]
      rw [e2, List.filter_append]
    | false =>
      rw [List.filter_cons, hb, if_neg (by simp)]
      have : (grow1 w 2).filter balB2 = [] := by
        rw [List.filter_eq_nil_iff]
        intro x hx hq
        obtain ⟨c, _, rfl⟩ := List.mem_map.1 hx
        rw [balB2_pre hq] at hb
        cases hb
      rw [this, List.nil_append]
theorem balL_is : ∀ m, balL m = (allW 2 m).filter balB2
  | 0 => rfl
  | m + 1 => by
    show (growA (balL m) 2).filter balB2 = (growA (allW 2 m) 2).filter balB2
    rw [balL_is m, grow_filter]
theorem allW_ab : ∀ m, ∀ w ∈ allW 2 m, AB w
  | 0, w, h => by
    simp only [allW, List.mem_singleton] at h
    subst h
    intro u hu; cases hu
  | m + 1, w, h => by
    obtain ⟨x, hx, hw⟩ := List.mem_flatMap.1 h
    obtain ⟨c, hc, rfl⟩ := List.mem_map.1 hw
    have hc := List.mem_range.1 hc
    intro u hu
    rcases List.mem_append.1 hu with h1 | h1
    · exact allW_ab m x hx u h1
    · rw [List.mem_singleton.1 h1]
      have : c = 0 ∨ c = 1 := by omega
      rcases this with rfl | rfl
      · exact .inl rfl
      · exact .inr rfl
end Go.Proofs.YthpcojnpiggaiaaGreat

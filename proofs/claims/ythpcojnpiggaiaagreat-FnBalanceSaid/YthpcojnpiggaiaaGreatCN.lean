/- Merged: M20 C78 C105 M28 C106. -/
import Derived.Test.YthpcojnpiggaiaaGreatC12
import Derived.Test.YthpcojnpiggaiaaGreatEB
/-! Plain law: bytes that are sorted by exchanges. -/
namespace Go.Proofs.YthpcojnpiggaiaaGreat
set_option linter.unusedVariables false

/-- The i-th byte as a number. -/
def K (L : List UInt8) (i : Nat) : Nat := (L.getD i 0).toNat
def swp (L : List UInt8) (i j : Nat) : List UInt8 := (L.set i (L.getD j 0)).set j (L.getD i 0)
theorem K_at {L : List UInt8} {i : Nat} (h : i < L.length) : K L i = L[i].toNat := by unfold K; rw [List.getD_eq_getElem?_getD, List.getElem?_eq_getElem h]; rfl
theorem K_lt (L : List UInt8) (i : Nat) : K L i < 256 := (L.getD i 0).toNat_lt
theorem swp_len (L : List UInt8) (i j : Nat) : (swp L i j).length = L.length := by unfold swp; rw [List.length_set, List.length_set]
theorem K_swp {L : List UInt8} {i j : Nat} (hi : i < L.length) (hj : j < L.length) (k : Nat) : K (swp L i j) k = if k = j then K L i else if k = i then K L j else K L k := by
  unfold K swp
  rw [List.getD_eq_getElem?_getD, List.getElem?_set, List.length_set]
  by_cases e : j = k
  · subst e; rw [if_pos rfl, if_pos hj, if_pos rfl]; rfl
  · rw [if_neg e, if_neg (Ne.symm e), List.getElem?_set]
    by_cases e2 : i = k
    · subst e2; rw [if_pos rfl, if_pos hi, if_pos rfl]; rfl
    · rw [if_neg e2, if_neg (Ne.symm e2), ← List.getD_eq_getElem?_getD]
theorem swp_perm {L : List UInt8} {i j : Nat} (hi : i < L.length) (hj : j < L.length) : (swp L i j).Perm L := by
  have e1 : L.getD i 0 = L[i] := by rw [List.getD_eq_getElem?_getD, List.getElem?_eq_getElem hi]; rfl
  have e2 : L.getD j 0 = L[j] := by rw [List.getD_eq_getElem?_getD, List.getElem?_eq_getElem hj]; rfl
  unfold swp
  rw [e1, e2]
  exact List.set_set_perm hi hj
/-- L' comes of L by exchanges between the places a and b. -/
structure SP (a b : Nat) (L L' : List UInt8) : Prop where
  len : L'.length = L.length
  out : ∀ i, i < a ∨ b ≤ i → K L' i = K L i
  inn : ∀ P : Nat → Prop, (∀ i, a ≤ i → i < b → P (K L i)) → ∀ i, a ≤ i → i < b → P (K L' i)
  perm : L'.Perm L
theorem SP.refl (a b : Nat) (L : List UInt8) : SP a b L L := ⟨rfl, fun _ _ => rfl, fun _ h => h, .refl _⟩
theorem SP.trans {a b : Nat} {A B C : List UInt8} (h : SP a b A B) (k : SP a b B C) : SP a b A C :=
  ⟨k.len.trans h.len, fun i hi => (k.out i hi).trans (h.out i hi), fun P hP => k.inn P (h.inn P hP), k.perm.trans h.perm⟩
theorem SP.mono {a b a' b' : Nat} {L L' : List UInt8} (h : SP a' b' L L') (ha : a ≤ a') (hb : b' ≤ b) : SP a b L L' :=
  ⟨h.len, fun i hi => h.out i (by omega), fun P hP i h1 h2 => by
    by_cases hi : a' ≤ i ∧ i < b'
    · exact h.inn P (fun j h3 h4 => hP j (by omega) (by omega)) i hi.1 hi.2
    · rw [h.out i (by omega)]; exact hP i h1 h2, h.perm⟩
theorem SP.swp {a b : Nat} {L : List UInt8} {i j : Nat} (hb : b ≤ L.length) (h1 : a ≤ i) (h2 : i < b) (h3 : a ≤ j) (h4 : j < b) : SP a b L (swp L i j) := by
  refine ⟨swp_len _ _ _, fun k hk => ?_, fun P hP k h5 h6 => ?_, swp_perm (by omega) (by omega)⟩
  · rw [K_swp (by omega) (by omega), if_neg (by omega), if_neg (by omega)]
  · rw [K_swp (by omega) (by omega)]
    split
    · exact hP i h1 h2
    · split
      · exact hP j h3 h4
      · exact hP k h5 h6
/-- In order between the places a and b. -/
def SS (a b : Nat) (L : List UInt8) : Prop := ∀ i j, a ≤ i → i < j → j < b → K L i ≤ K L j
theorem SS.one {a : Nat} (L : List UInt8) {b : Nat} (h : b ≤ a + 1) : SS a b L := fun i j h1 h2 h3 => by omega
theorem SS.le {a b : Nat} {L : List UInt8} (h : SS a b L) {i j : Nat} (h1 : a ≤ i) (h2 : i ≤ j) (h3 : j < b) : K L i ≤ K L j := by
  by_cases e : i = j
  · subst e; exact Nat.le_refl _
  · exact h i j h1 (by omega) h3
theorem SS.same {a b : Nat} {L L' : List UInt8} (h : SS a b L) (he : ∀ i, a ≤ i → i < b → K L' i = K L i) : SS a b L' := fun i j h1 h2 h3 => by
  rw [he i h1 (by omega), he j (by omega) h3]; exact h i j h1 h2 h3
/-- Neighbours in order: all in order. -/
theorem SS.steps {a b : Nat} {L : List UInt8} (h : ∀ i, a ≤ i → i + 1 < b → K L i ≤ K L (i + 1)) : SS a b L := by
  intro i j h1 h2 h3
  induction j with
  | zero => omega
  | succ j ih =>
    by_cases e : i = j
    · subst e; exact h i h1 h3
    · exact Nat.le_trans (ih (by omega) (by omega)) (h j (by omega) h3)
/-- Insertion: the places a .. i are in order but for the one at j, which is less than what stands behind it. -/
structure Ins (a i j : Nat) (L : List UInt8) : Prop where
  rest : ∀ x y, a ≤ x → x < y → y ≤ i → x ≠ j → y ≠ j → K L x ≤ K L y
  up : ∀ y, j < y → y ≤ i → K L j ≤ K L y
theorem Ins.start {a i : Nat} {L : List UInt8} (h : SS a i L) : Ins a i i L :=
  ⟨fun x y h1 h2 h3 _ h5 => h x y h1 h2 (by omega), fun y h1 h2 => by omega⟩
theorem Ins.done {a i j : Nat} {L : List UInt8} (h : Ins a i j L) (ha : a ≤ j) (hs : j = a ∨ K L (j - 1) ≤ K L j) : SS a (i + 1) L := by
  intro x y h1 h2 h3
  by_cases e1 : x = j
  · subst e1; exact h.up y h2 (by omega)
  · by_cases e2 : y = j
    · subst e2
      rcases hs with e | e
      · omega
      · by_cases e3 : x = y - 1
        · subst e3; exact e
        · exact Nat.le_trans (h.rest x (y - 1) h1 (by omega) (by omega) e1 (by omega)) e
    · exact h.rest x y h1 h2 (by omega) e1 e2
theorem Ins.step {a i j : Nat} {L : List UInt8} (h : Ins a i j L) (ha : a < j) (hj : j ≤ i) (hi : i < L.length) (hl : K L j < K L (j - 1)) : Ins a i (j - 1) (swp L j (j - 1)) := by
  have kk := K_swp (L := L) (i := j) (j := j - 1) (by omega) (by omega)
  refine ⟨fun x y h1 h2 h3 h4 h5 => ?_, fun y h1 h2 => ?_⟩
  · rw [kk, kk, if_neg h4, if_neg h5]
    by_cases e1 : x = j
    · subst e1
      rw [if_pos rfl, if_neg (by omega)]
      exact h.rest (x - 1) y (by omega) (by omega) h3 (by omega) (by omega)
    · rw [if_neg e1]
      by_cases e2 : y = j
      · subst e2
        rw [if_pos rfl]
        exact h.rest x (y - 1) h1 (by omega) (by omega) (by omega) (by omega)
      · rw [if_neg e2]; exact h.rest x y h1 h2 h3 e1 e2
  · rw [kk, kk, if_pos rfl, if_neg (by omega)]
    by_cases e : y = j
    · rw [if_pos e]; omega
    · rw [if_neg e]; exact h.up y (by omega) h2
/-- Bytes in order that are the same but for their order are the same. -/
theorem SS.pairwise {L : List UInt8} (h : SS 0 L.length L) : L.Pairwise (fun x y => x.toNat ≤ y.toNat) := by
  rw [List.pairwise_iff_getElem]
  intro i j hi hj hij
  have := h i j (Nat.zero_le _) hij hj
  rw [K_at hi, K_at hj] at this
  exact this
theorem sorted_same {A B : List UInt8} (ha : A.Pairwise (fun x y => x.toNat ≤ y.toNat)) (hb : B.Pairwise (fun x y => x.toNat ≤ y.toNat)) (hp : A.Perm B) : A = B :=
  hp.eq_of_pairwise (fun x y _ _ h1 h2 => UInt8.toNat_inj.1 (Nat.le_antisymm h1 h2)) ha hb
end Go.Proofs.YthpcojnpiggaiaaGreat
/-! Contracts: bytes sorted by insertion. -/
namespace Go.Proofs.YthpcojnpiggaiaaGreat
open Go
set_option linter.unusedSimpArgs false
set_option linter.unusedVariables false

theorem getK {M : Mem} {b c i : Nat} {w : Bool} {L : List UInt8} (h : M b = some (.cells w (bytesV L) c)) (hi : i < L.length) : M.get? b i = some (.int .u8 (K L i : Nat)) := by
  rw [get_of h]
  unfold bytesV
  rw [List.getElem?_map, List.getElem?_eq_getElem hi, K_at hi]; rfl
theorem setK (L A : List UInt8) (i j : Nat) : (bytesV L).set i (.int .u8 (K A j : Nat)) = bytesV (L.set i (A.getD j 0)) := by
  unfold bytesV K
  rw [List.map_set]
theorem swp_fold (L : List UInt8) (i j : Nat) : (L.set i (L.getD j 0)).set j (L.getD i 0) = swp L i j := rfl
theorem swp_get {L : List UInt8} {i j : Nat} (hi : i < L.length) (hj : j < L.length) : (L.set i (L[j]'hj)).set j (L[i]'hi) = swp L i j := by
  unfold swp
  rw [List.getD_eq_getElem?_getD, List.getElem?_eq_getElem hj, List.getD_eq_getElem?_getD, List.getElem?_eq_getElem hi]; rfl
theorem lenK (L : List UInt8) : (bytesV L).length = L.length := bytesV_length L
theorem put_self {M : Mem} {b : Nat} {B : Blk} (h : M b = some B) : M.put b B = M := by
  funext i
  unfold Mem.put
  split
  · rename_i e; subst e; exact h.symm
  · rfl
theorem isNaN_does (x : Nat) (M : Mem) (R : Value → Mem → Prop) (h : R (.bool false) M) : Does Tryz.prog 177 [.int .u8 x] M R := by
  refine does_fn tab_ok Tryz.func177 rfl (by kernel_rfl) (by kernel_rfl) Tryz.ntmps177 Tryz.results177 rfl ?_
  have e : ((x : Int) != (x : Int)) = false := by simp
  simp (disch := omega) [e]
  exact ret_of h
theorem lessB_does (x y : Nat) (M : Mem) (R : Value → Mem → Prop) (h : R (.bool (decide (x < y))) M) : Does Tryz.prog 155 [.int .u8 x, .int .u8 y] M R := by
  have e : decide ((x : Int) < (y : Int)) = decide (x < y) := by
    by_cases hh : x < y
    · rw [decide_eq_true hh]; exact decide_eq_true (by omega)
    · rw [decide_eq_false hh]; exact decide_eq_false (by omega)
  refine does_fn tab_ok Tryz.func155 rfl (by kernel_rfl) (by kernel_rfl) Tryz.ntmps155 Tryz.results155 rfl ?_
  simp (disch := omega)
  refine isNaN_does x _ _ ?_
  simp (disch := omega) [e]
  exact ret_of h
theorem insertB_does (b c lo hi : Nat) (L : List UInt8) (M : Mem) (R : Value → Mem → Prop) (hM : M b = some (.cells true (bytesV L) c)) (hc : L.length ≤ c) (hl : L.length ≤ 1000000) (hlo : lo ≤ hi) (hhi : hi ≤ L.length)
    (h : ∀ L', SP lo hi L L' → SS lo hi L' → R (.tuple #[]) (M.put b (.cells true (bytesV L') c))) : Does Tryz.prog 149 [.slice (some ⟨b, 0, none⟩) L.length c, .int .i64 lo, .int .i64 hi] M R := by
  refine does_fn tab_ok Tryz.func149 rfl (by kernel_rfl) (by kernel_rfl) Tryz.ntmps149 Tryz.results149 rfl ?_
  simp (disch := omega)
  refine loop_to tab_ok [6, 7, 10, 11, 12, 13, 14, 15, 16, 17, 18, 19, 20, 21, 22, 23, 24, 25, 26, 27, 28, 29, 30, 31, 32, 33, 34, 35, 36, 37, 38, 39, 40, 41, 42, 43, 44, 45, 46, 47, 48] (fun x : Nat × List UInt8 => [(6, .int .i64 x.1)]) (fun x M' => M.put b (.cells true (bytesV x.2) c) = M' ∧ lo + 1 ≤ x.1 ∧ (x.1 ≤ hi ∨ x.1 = lo + 1) ∧ SP lo hi L x.2 ∧ SS lo x.1 x.2) (fun x => hi + 1 - x.1) (lo + 1, L) (by kernel_rfl) (by simp (disch := omega)) ⟨put_self hM, Nat.le_refl _, .inr rfl, SP.refl _ _ _, SS.one _ (Nat.le_refl _)⟩ ?_
  rintro ⟨i, L1⟩ M' g ⟨rfl, h1, h2, hsp, hss⟩
  simp only at h1 h2 hsp hss
  have hl1 := hsp.len
  by_cases hlt : i < hi
  · simp (disch := omega)
    refine loop_to tab_ok [7, 16, 17, 18, 19, 20, 21, 22, 23, 24, 25, 26, 27, 28, 29, 30, 31, 32, 33, 34, 35, 36, 37, 38, 39, 40, 41, 42, 43, 44, 45, 46, 47, 48] (fun x : Nat × List UInt8 => [(7, .int .i64 x.1)]) (fun x M' => M.put b (.cells true (bytesV x.2) c) = M' ∧ lo ≤ x.1 ∧ x.1 ≤ i ∧ SP lo hi L x.2 ∧ Ins lo i x.1 x.2) (fun x => x.1) (i, L1) (by kernel_rfl) (by simp (disch := omega)) ⟨rfl, by simp only; omega, Nat.le_refl _, hsp, Ins.start hss⟩ ?_
    clear hsp hss hl1
    rintro ⟨j, L2⟩ M' g2 ⟨rfl, hj1, hj2, hsp, hin⟩
    simp only at hj1 hj2 hsp hin
    have hl2 := hsp.len
    have kM : (M.put b (.cells true (bytesV L2) c)) b = some (.cells true (bytesV L2) c) := put_same _ _ _
    have kj := getK kM (i := j) (by omega)
    by_cases hja : lo < j
    · obtain ⟨q, hq⟩ : ∃ q, j = q + 1 := ⟨j - 1, by omega⟩
      subst hq
      have kq := getK kM (i := q) (by omega)
      have e1 : ((q + 1 : Nat) : Int) - 1 = q := by omega
      simp (disch := omega)
      refine draw_to tab_ok (by kernel_rfl) (by kernel_rfl) (by rfl) ?_
      simp (disch := omega) [kj, kq]
      refine vQCall_at (a := []) (c := []) (lessB_does _ _ _ _ ⟨rfl, rfl⟩) ?_
      by_cases hk : K L2 (q + 1) < K L2 q
      · have hst := hin.step (by omega) hj2 (by omega) (by simpa using hk)
        have hsw := SP.swp (L := L2) (a := lo) (b := hi) (i := q + 1) (j := q) (by omega) (by omega) (by omega) (by omega) (by omega)
        rw [decide_eq_true hk]
        simp (disch := omega)
        refine plays (lights [0, 1, 2, 3, 4, 5, 6, 7, 8, 9, 10, 11, 12, 13, 14] (.one 15 2 (lights [16] (.one 17 2 .fin)))) tab_ok (by kernel_rfl) (by kernel_rfl) (by rfl) ?_
        simp (disch := omega) [kj, kq, kM, set_is, setK, lenK]
        refine Rnd.mk' (q, swp L2 (q + 1) q) (by simp only; omega) (by (repeat (first | exact km | refine kp rfl ?_ | refine km' rfl ?_))) (by simp (disch := omega)) ⟨by simp only [put_put, swp_get], by simp only; omega, by simp only; omega, hsp.trans hsw, hst⟩
      · rw [decide_eq_false hk]
        simp (disch := omega)
        have hs2 := hin.done hj1 (.inr (by simpa using Nat.le_of_not_lt hk))
        refine Rnd.mk' (i + 1, L2) (by simp only; omega) (by (repeat (first | exact km | refine kp rfl ?_ | refine km' rfl ?_))) (by simp (disch := omega)) ⟨rfl, by simp only; omega, .inl (by simp only; omega), hsp, hs2⟩
    · have hja' : j = lo := by omega
      subst hja'
      simp (disch := omega)
      refine draw_to tab_ok (by kernel_rfl) (by kernel_rfl) (by rfl) ?_
      simp (disch := omega)
      have hs2 := hin.done hj1 (.inl rfl)
      refine Rnd.mk' (i + 1, L2) (by simp only; omega) (by (repeat (first | exact km | refine kp rfl ?_ | refine km' rfl ?_))) (by simp (disch := omega)) ⟨rfl, by simp only; omega, .inl (by simp only; omega), hsp, hs2⟩
  · simp (disch := omega)
    refine ret_of (h L1 hsp ?_)
    rcases h2 with h2 | h2
    · rw [show hi = i by omega]; exact hss
    · exact SS.one _ (by omega)
end Go.Proofs.YthpcojnpiggaiaaGreat
/-! Contracts: parts of the sorting of bytes: reversals, pivots. -/
namespace Go.Proofs.YthpcojnpiggaiaaGreat
open Go
set_option linter.unusedSimpArgs false
set_option linter.unusedVariables false

theorem reverseRange_does (b c lo hi : Nat) (L : List UInt8) (M : Mem) (R : Value → Mem → Prop) (hM : M b = some (.cells true (bytesV L) c)) (hc : L.length ≤ c) (hl : L.length ≤ 1000000) (hlo : lo ≤ hi) (hhi : hi ≤ L.length)
    (h : ∀ L', SP lo hi L L' → R (.tuple #[]) (M.put b (.cells true (bytesV L') c))) : Does Tryz.prog 153 [.slice (some ⟨b, 0, none⟩) L.length c, .int .i64 lo, .int .i64 hi] M R := by
  refine does_fn tab_ok Tryz.func153 rfl (by kernel_rfl) (by kernel_rfl) Tryz.ntmps153 Tryz.results153 rfl ?_
  simp (disch := omega)
  refine loop_to tab_ok [6, 7, 11, 12, 13, 14, 15, 16, 17, 18, 19, 20, 21, 22, 23, 24, 25, 26, 27, 28, 29, 30, 31] (fun x : Nat × List UInt8 => [(6, .int .i64 ((lo : Int) + x.1)), (7, .int .i64 ((hi : Int) - 1 - x.1))]) (fun x M' => M.put b (.cells true (bytesV x.2) c) = M' ∧ 2 * x.1 ≤ hi - lo + 1 ∧ SP lo hi L x.2) (fun x => hi - x.1 + 1) (0, L) (by kernel_rfl) (by simp (disch := omega)) ⟨put_self hM, by simp only; omega, SP.refl _ _ _⟩ ?_
  rintro ⟨k, L1⟩ M' g ⟨rfl, hk, hsp⟩
  simp only at hk hsp
  have hl1 := hsp.len
  have kM : (M.put b (.cells true (bytesV L1) c)) b = some (.cells true (bytesV L1) c) := put_same _ _ _
  by_cases hlt : lo + k + 1 + k < hi
  · obtain ⟨p, hp⟩ : ∃ p : Nat, p = lo + k := ⟨_, rfl⟩
    obtain ⟨q, hq⟩ : ∃ q : Nat, q = hi - 1 - k := ⟨_, rfl⟩
    have hpI : (lo : Int) + k = p := by omega
    have hqI : (hi : Int) - 1 - k = q := by omega
    have xp := getK kM (i := p) (by omega)
    have xq := getK kM (i := q) (by omega)
    have hpq : (p : Int) < q := by omega
    have hpq' : p < q := by omega
    have hsw := SP.swp (L := L1) (a := lo) (b := hi) (i := p) (j := q) (by omega) (by omega) (by omega) (by omega) (by omega)
    rw [hpI, hqI]
    have e1 : (lo : Int) + ((k : Int) + 1) = (p : Int) + 1 := by omega
    have e2 : (hi : Int) - 1 - ((k : Int) + 1) = (q : Int) - 1 := by omega
    simp (disch := omega) [hpq, hpq']
    refine plays (lights [0, 1, 2, 3, 4, 5, 6, 7, 8, 9, 10, 11, 12] (.one 13 2 (lights [14] (.one 15 2 .fin)))) tab_ok (by kernel_rfl) (by kernel_rfl) (by rfl) ?_
    simp (disch := omega) [xp, xq, kM, set_is, setK, lenK]
    refine Rnd.mk' (k + 1, swp L1 p q) (by simp only; omega) (by (repeat (first | exact km | refine kp rfl ?_ | refine km' rfl ?_))) (by simp (disch := omega) [e1, e2]; try omega) ⟨by simp only [put_put, swp_get], by simp only; omega, hsp.trans hsw⟩
  · have hlt' : ¬ (lo : Int) + k < (hi : Int) - 1 - k := by omega
    simp (disch := omega) [hlt']
    exact ret_of (h L1 hsp)
theorem order2_does (b c sb i j n : Nat) (L : List UInt8) (M : Mem) (R : Value → Mem → Prop) (hM : M b = some (.cells true (bytesV L) c)) (hs : M sb = some (.cells true [.int .i64 n] 1)) (hc : L.length ≤ c) (hl : L.length ≤ 1000000) (hi : i < L.length) (hj : j < L.length) (hn : n ≤ 1000)
    (h : ∀ i' j' n', (i' = i ∧ j' = j ∨ i' = j ∧ j' = i) → n' ≤ n + 1 → R (.tuple #[.int .i64 (i' : Nat), .int .i64 (j' : Nat)]) (M.put sb (.cells true [.int .i64 (n' : Nat)] 1))) : Does Tryz.prog 183 [.slice (some ⟨b, 0, none⟩) L.length c, .int .i64 i, .int .i64 j, .pointer (some ⟨sb, 0, none⟩)] M R := by
  have ki := getK hM (i := i) hi
  have kj := getK hM (i := j) hj
  refine does_fn tab_ok Tryz.func183 rfl (by kernel_rfl) (by kernel_rfl) Tryz.ntmps183 Tryz.results183 rfl ?_
  simp (disch := omega)
  refine draw_to tab_ok (by kernel_rfl) (by kernel_rfl) (by rfl) ?_
  simp (disch := omega) [ki, kj]
  refine vQCall_at (a := []) (c := []) (lessB_does _ _ _ _ ⟨rfl, rfl⟩) ?_
  by_cases hk : K L j < K L i
  · rw [decide_eq_true hk]
    have hf := h j i (n + 1) (.inr ⟨rfl, rfl⟩) (Nat.le_refl _)
    have e1 : ((n + 1 : Nat) : Int) = (n : Int) + 1 := by omega
    rw [e1] at hf
    simp (disch := omega) [get_of hs, sub_of hs, hs, set_is]
    exact ret_of hf
  · rw [decide_eq_false hk]
    have hf := h i j n (.inl ⟨rfl, rfl⟩) (by omega)
    rw [put_self hs] at hf
    simp (disch := omega)
    exact ret_of hf
theorem median_does (b c sb i j k n : Nat) (hbs : b ≠ sb) (L : List UInt8) (M : Mem) (R : Value → Mem → Prop) (hM : M b = some (.cells true (bytesV L) c)) (hs : M sb = some (.cells true [.int .i64 n] 1)) (hc : L.length ≤ c) (hl : L.length ≤ 1000000) (hi : i < L.length) (hj : j < L.length) (hk : k < L.length) (hn : n ≤ 900)
    (h : ∀ m n', (m = i ∨ m = j ∨ m = k) → n' ≤ n + 3 → R (.int .i64 (m : Nat)) (M.put sb (.cells true [.int .i64 (n' : Nat)] 1))) : Does Tryz.prog 176 [.slice (some ⟨b, 0, none⟩) L.length c, .int .i64 i, .int .i64 j, .int .i64 k, .pointer (some ⟨sb, 0, none⟩)] M R := by
  refine does_fn tab_ok Tryz.func176 rfl (by kernel_rfl) (by kernel_rfl) Tryz.ntmps176 Tryz.results176 rfl ?_
  simp (disch := omega)
  refine order2_does b c sb i j n L _ _ hM hs hc hl hi hj (by omega) ?_
  intro i1 j1 n1 e1 hn1
  have hM1 : (M.put sb (.cells true [.int .i64 (n1 : Nat)] 1)) b = some (.cells true (bytesV L) c) := by rw [put_ne _ _ hbs]; exact hM
  have hs1 : (M.put sb (.cells true [.int .i64 (n1 : Nat)] 1)) sb = some (.cells true [.int .i64 (n1 : Nat)] 1) := put_same _ _ _
  simp (disch := omega)
  refine order2_does b c sb j1 k n1 L _ _ hM1 hs1 hc hl (by rcases e1 with ⟨_, rfl⟩ | ⟨_, rfl⟩ <;> assumption) hk (by omega) ?_
  intro j2 k2 n2 e2 hn2
  rw [put_put]
  have hM2 : (M.put sb (.cells true [.int .i64 (n2 : Nat)] 1)) b = some (.cells true (bytesV L) c) := by rw [put_ne _ _ hbs]; exact hM
  have hs2 : (M.put sb (.cells true [.int .i64 (n2 : Nat)] 1)) sb = some (.cells true [.int .i64 (n2 : Nat)] 1) := put_same _ _ _
  have b1 : i1 < L.length := by rcases e1 with ⟨rfl, _⟩ | ⟨rfl, _⟩ <;> assumption
  have b1' : j1 < L.length := by rcases e1 with ⟨_, rfl⟩ | ⟨_, rfl⟩ <;> assumption
  have b2 : j2 < L.length := by rcases e2 with ⟨rfl, _⟩ | ⟨rfl, _⟩ <;> assumption
  simp (disch := omega)
  refine order2_does b c sb i1 j2 n2 L _ _ hM2 hs2 hc hl b1 b2 (by omega) ?_
  intro i3 j3 n3 e3 hn3
  rw [put_put]
  simp (disch := omega)
  exact ret_of (h j3 n3 (by omega) (by omega))
theorem medianAdj_does (b c sb i n : Nat) (hbs : b ≠ sb) (L : List UInt8) (M : Mem) (R : Value → Mem → Prop) (hM : M b = some (.cells true (bytesV L) c)) (hs : M sb = some (.cells true [.int .i64 n] 1)) (hc : L.length ≤ c) (hl : L.length ≤ 1000000) (hi1 : 1 ≤ i) (hi : i + 1 < L.length) (hn : n ≤ 900)
    (h : ∀ m n', (i ≤ m + 1 ∧ m ≤ i + 1) → n' ≤ n + 3 → R (.int .i64 (m : Nat)) (M.put sb (.cells true [.int .i64 (n' : Nat)] 1))) : Does Tryz.prog 175 [.slice (some ⟨b, 0, none⟩) L.length c, .int .i64 i, .pointer (some ⟨sb, 0, none⟩)] M R := by
  refine does_fn tab_ok Tryz.func175 rfl (by kernel_rfl) (by kernel_rfl) Tryz.ntmps175 Tryz.results175 rfl ?_
  have e1 : (i : Int) - 1 = ((i - 1 : Nat) : Int) := by omega
  have e2 : (i : Int) + 1 = ((i + 1 : Nat) : Int) := by omega
  simp (disch := omega)
  rw [e1, e2]
  refine median_does b c sb (i - 1) i (i + 1) n hbs L _ _ hM hs hc hl (by omega) (by omega) hi hn ?_
  intro m n' hm hn'
  simp (disch := omega)
  exact ret_of (h m n' (by omega) hn')
theorem choosePivot_does (b c lo hi : Nat) (L : List UInt8) (M : Mem) (R : Value → Mem → Prop) (hM : M b = some (.cells true (bytesV L) c)) (hc : L.length ≤ c) (hl : L.length ≤ 1000000) (hlo : lo + 8 ≤ hi) (hhi : hi ≤ L.length)
    (h : ∀ p t M', lo ≤ p → p < hi → (t = 0 ∨ t = 1 ∨ t = 2) → Sub M M' → R (.tuple #[.int .i64 (p : Nat), .int .i64 t]) M') : Does Tryz.prog 152 [.slice (some ⟨b, 0, none⟩) L.length c, .int .i64 lo, .int .i64 hi] M R := by
  obtain ⟨l, hll⟩ : ∃ l : Nat, l = hi - lo := ⟨_, rfl⟩
  have hlI : (hi : Int) - lo = l := by omega
  obtain ⟨q, hq⟩ : ∃ q : Nat, q = l / 4 := ⟨_, rfl⟩
  have hqI : (l : Int).tdiv 4 = q := by rw [hq]; rfl
  have h8 : (8 : Int) ≤ l := by omega
  have h8' : 8 ≤ l := by omega
  have hq4 : 4 * q ≤ l ∧ l < 4 * q + 4 := by omega
  refine does_fn tab_ok Tryz.func152 rfl (by kernel_rfl) (by kernel_rfl) Tryz.ntmps152 Tryz.results152 rfl ?_
  simp (disch := omega) [hlI, hqI]
  intro sb hsb
  have hbs : b ≠ sb := by rintro rfl; rw [hsb] at hM; cases hM
  simp (disch := omega) [hlI, hqI, h8, h8']
  have hsub : ∀ n : Nat, Sub M (M.put sb (.cells true [.int .i64 (n : Nat)] 1)) := fun n => (Sub.refl M).put hsb _
  have hMn : ∀ n : Nat, (M.put sb (.cells true [.int .i64 (n : Nat)] 1)) b = some (.cells true (bytesV L) c) := fun n => by rw [put_ne _ _ hbs]; exact hM
  have hSn : ∀ n : Nat, (M.put sb (.cells true [.int .i64 (n : Nat)] 1)) sb = some (.cells true [.int .i64 (n : Nat)] 1) := fun n => put_same _ _ _
  obtain ⟨i, hi⟩ : ∃ i : Nat, i = lo + q := ⟨_, rfl⟩
  obtain ⟨j, hj⟩ : ∃ j : Nat, j = lo + q * 2 := ⟨_, rfl⟩
  obtain ⟨k, hk⟩ : ∃ k : Nat, k = lo + q * 3 := ⟨_, rfl⟩
  have hiI : (lo : Int) + q = i := by omega
  have hjI : (lo : Int) + (q : Int) * 2 = j := by omega
  have hkI : (lo : Int) + (q : Int) * 3 = k := by omega
  have h0 : (0 : Int) = ((0 : Nat) : Int) := rfl
  have hM0 := hMn 0
  have hS0 := hSn 0
  rw [hiI, hjI, hkI]
  by_cases h50 : 50 ≤ l
  · have h50I : (50 : Int) ≤ l := by omega
    simp (disch := omega) [h50, h50I]
    refine medianAdj_does b c sb i 0 hbs L _ _ hM0 hS0 hc hl (by omega) (by omega) (by omega) ?_
    intro i' n1 hi' hn1
    rw [put_put]
    simp (disch := omega)
    refine medianAdj_does b c sb j n1 hbs L _ _ (hMn n1) (hSn n1) hc hl (by omega) (by omega) (by omega) ?_
    intro j' n2 hj' hn2
    rw [put_put]
    simp (disch := omega)
    refine medianAdj_does b c sb k n2 hbs L _ _ (hMn n2) (hSn n2) hc hl (by omega) (by omega) (by omega) ?_
    intro k' n3 hk' hn3
    rw [put_put]
    simp (disch := omega)
    refine median_does b c sb i' j' k' n3 hbs L _ _ (hMn n3) (hSn n3) hc hl (by omega) (by omega) (by omega) (by omega) ?_
    intro m n4 hm hn4
    rw [put_put]
    have k4 := hSn n4
    have s4 := hsub n4
    generalize M.put sb (.cells true [.int .i64 (n4 : Nat)] 1) = N at *
    simp (disch := omega) [get_of k4, sub_of k4]
    by_cases e0 : n4 = 0
    · have e0I : (n4 : Int) = 0 := by omega
      simp (disch := omega) [e0, e0I]
      exact ret_of (h m 1 N (by omega) (by omega) (by omega) s4)
    · have e0I : ¬ (n4 : Int) = 0 := by omega
      by_cases e12 : n4 = 12
      · have e12I : (n4 : Int) = 12 := by omega
        simp (disch := omega) [e0, e0I, e12, e12I]
        exact ret_of (h m 2 N (by omega) (by omega) (by omega) s4)
      · have e12I : ¬ (n4 : Int) = 12 := by omega
        simp (disch := omega) [e0, e0I, e12, e12I]
        exact ret_of (h m 0 N (by omega) (by omega) (by omega) s4)
  · have h50I : ¬ (50 : Int) ≤ l := by omega
    simp (disch := omega) [h50, h50I]
    refine median_does b c sb i j k 0 hbs L _ _ hM0 hS0 hc hl (by omega) (by omega) (by omega) (by omega) ?_
    intro m n4 hm hn4
    rw [put_put]
    have k4 := hSn n4
    have s4 := hsub n4
    generalize M.put sb (.cells true [.int .i64 (n4 : Nat)] 1) = N at *
    simp (disch := omega) [get_of k4, sub_of k4]
    by_cases e0 : n4 = 0
    · have e0I : (n4 : Int) = 0 := by omega
      simp (disch := omega) [e0, e0I]
      exact ret_of (h m 1 N (by omega) (by omega) (by omega) s4)
    · have e0I : ¬ (n4 : Int) = 0 := by omega
      by_cases e12 : n4 = 12
      · have e12I : (n4 : Int) = 12 := by omega
        simp (disch := omega) [e0, e0I, e12, e12I]
        exact ret_of (h m 2 N (by omega) (by omega) (by omega) s4)
      · have e12I : ¬ (n4 : Int) = 12 := by omega
        simp (disch := omega) [e0, e0I, e12, e12I]
        exact ret_of (h m 0 N (by omega) (by omega) (by omega) s4)
end Go.Proofs.YthpcojnpiggaiaaGreat
/-! Plain law: heaps of bytes. -/
namespace Go.Proofs.YthpcojnpiggaiaaGreat
set_option linter.unusedVariables false

/-- c is a child of i. -/
def Chd (i c : Nat) : Prop := c = 2 * i + 1 ∨ c = 2 * i + 2
/-- A heap from lo on (of hi places behind f), but for what stands at r. -/
structure HpX (f lo hi r : Nat) (L : List UInt8) : Prop where
  rest : ∀ i c, lo ≤ i → i ≠ r → Chd i c → c < hi → K L (f + c) ≤ K L (f + i)
  grand : ∀ p c, lo ≤ p → Chd p r → Chd r c → c < hi → K L (f + c) ≤ K L (f + p)
def Heap (f lo hi : Nat) (L : List UInt8) : Prop := ∀ i c, lo ≤ i → Chd i c → c < hi → K L (f + c) ≤ K L (f + i)
theorem HpX.done {f lo hi r : Nat} {L : List UInt8} (h : HpX f lo hi r L) (hr : ∀ c, Chd r c → c < hi → K L (f + c) ≤ K L (f + r)) : Heap f lo hi L := by
  intro i c h1 h2 h3
  by_cases e : i = r
  · subst e; exact hr c h2 h3
  · exact h.rest i c h1 e h2 h3
theorem HpX.step {f lo hi r m : Nat} {L : List UInt8} (h : HpX f lo hi r L) (hlo : lo ≤ r) (hc : Chd r m) (hm : m < hi) (hl : f + hi ≤ L.length) (hmax : ∀ c, Chd r c → c < hi → K L (f + c) ≤ K L (f + m)) (hlt : K L (f + r) < K L (f + m)) : HpX f lo hi m (swp L (f + r) (f + m)) := by
  have hrm : r < m := by rcases hc with h | h <;> omega
  have kk := K_swp (L := L) (i := f + r) (j := f + m) (by omega) (by omega)
  refine ⟨fun i c h1 h2 h3 h4 => ?_, fun p c h1 h2 h3 h4 => ?_⟩
  · rw [kk, kk]
    by_cases e1 : i = r
    · subst e1
      rw [if_neg (show ¬ f + i = f + m by omega), if_pos (show f + i = f + i from rfl)]
      by_cases e2 : c = m
      · subst e2; rw [if_pos rfl]; omega
      · have : c ≠ i := by rcases h3 with h | h <;> omega
        rw [if_neg (by omega), if_neg (by omega)]
        exact hmax c h3 h4
    · rw [if_neg (show ¬ f + i = f + m by omega), if_neg (show ¬ f + i = f + r by omega)]
      by_cases e2 : c = m
      · exfalso
        subst e2
        rcases h3 with a | a <;> rcases hc with b | b <;> omega
      · by_cases e3 : c = r
        · subst e3
          rw [if_neg (by omega), if_pos rfl]
          exact h.grand i m h1 h3 hc hm
        · rw [if_neg (by omega), if_neg (by omega)]
          exact h.rest i c h1 e1 h3 h4
  · have hp : p = r := by rcases h2 with a | a <;> rcases hc with b | b <;> omega
    subst hp
    have hcm : m < c := by rcases h3 with h | h <;> omega
    rw [kk, kk, if_neg (show ¬ f + c = f + m by omega), if_neg (show ¬ f + c = f + p by omega), if_neg (show ¬ f + p = f + m by omega), if_pos rfl]
    exact h.rest m c (by omega) (by omega) h3 h4
theorem Heap.start {f lo hi : Nat} {L : List UInt8} (h : Heap f (lo + 1) hi L) : HpX f lo hi lo L :=
  ⟨fun i c h1 h2 h3 h4 => h i c (by omega) h3 h4, fun p c h1 h2 _ _ => by rcases h2 with a | a <;> omega⟩
theorem Heap.top {f hi : Nat} {L : List UInt8} (h : Heap f 0 hi L) : ∀ x, x < hi → K L (f + x) ≤ K L f
  | 0, _ => Nat.le_refl _
  | x + 1, hx => by
    have := h (x / 2) (x + 1) (Nat.zero_le _) (by unfold Chd; omega) hx
    have ih := Heap.top h (x / 2) (by omega)
    omega
/-- The greatest one is put behind the heap. -/
structure Pop (f n : Nat) (i : Nat) (L : List UInt8) : Prop where
  heap : Heap f 0 i L
  sort : SS (f + i) (f + n) L
  low : ∀ x y, x < i → i ≤ y → y < n → K L (f + x) ≤ K L (f + y)
theorem Pop.step {f n i : Nat} {L : List UInt8} (h : Pop f n (i + 1) L) (hi : i < n) (hl : f + n ≤ L.length) : HpX f 0 i 0 (swp L f (f + i)) ∧ SS (f + i) (f + n) (swp L f (f + i)) ∧ ∀ x y, x < i → i ≤ y → y < n → K (swp L f (f + i)) (f + x) ≤ K (swp L f (f + i)) (f + y) := by
  have kk := K_swp (L := L) (i := f) (j := f + i) (by omega) (by omega)
  have ht := fun x hx => h.heap.top x hx
  refine ⟨⟨fun a c h1 h2 h3 h4 => ?_, fun p c h1 h2 h3 h4 => ?_⟩, fun x y h1 h2 h3 => ?_, fun x y h1 h2 h3 => ?_⟩
  · have hca : a < c := by rcases h3 with h | h <;> omega
    rw [kk, kk, if_neg (by omega), if_neg (by omega), if_neg (by omega), if_neg (by omega)]
    exact h.heap a c (Nat.zero_le _) h3 (by omega)
  · rcases h2 with a | a <;> omega
  · rw [kk, kk]
    by_cases e1 : x = f + i
    · rw [if_pos e1]
      rw [if_neg (by omega), if_neg (by omega)]
      obtain ⟨z, rfl⟩ : ∃ z, y = f + z := ⟨y - f, by omega⟩
      have := h.low 0 z (by omega) (by omega) (by omega)
      rw [Nat.add_zero] at this; exact this
    · rw [if_neg e1, if_neg (by omega), if_neg (by omega), if_neg (by omega)]
      exact h.sort x y (by omega) h2 h3
  · rw [kk, kk]
    have hx : K L (f + x) ≤ K L f := ht x (by omega)
    have hii : K L (f + i) ≤ K L f := ht i (by omega)
    rw [if_neg (show ¬ f + x = f + i by omega)]
    by_cases e2 : y = i
    · subst e2
      rw [if_pos rfl]
      by_cases e3 : x = 0
      · subst e3; rw [Nat.add_zero, if_pos rfl]; exact hii
      · rw [if_neg (by omega)]; exact hx
    · rw [if_neg (show ¬ f + y = f + i by omega), if_neg (show ¬ f + y = f by omega)]
      by_cases e3 : x = 0
      · subst e3; rw [Nat.add_zero, if_pos rfl]
        exact h.low i y (by omega) (by omega) h3
      · rw [if_neg (by omega)]
        exact h.low x y (by omega) (by omega) h3
/-- What is exchanged inside a part stays below what stands behind it. -/
theorem Pop.next {f n i : Nat} {L L' : List UInt8} (hs : SP f (f + i) L L') (hh : Heap f 0 i L') (h1 : SS (f + i) (f + n) L) (h2 : ∀ x y, x < i → i ≤ y → y < n → K L (f + x) ≤ K L (f + y)) : Pop f n i L' := by
  refine ⟨hh, h1.same fun j a b => hs.out j (by omega), fun x y a b c => ?_⟩
  rw [hs.out (f + y) (by omega)]
  exact hs.inn (fun z => z ≤ K L (f + y)) (fun j p q => by
    obtain ⟨z, rfl⟩ : ∃ z, j = f + z := ⟨j - f, by omega⟩
    exact h2 z y (by omega) b c) (f + x) (by omega) (by omega)
end Go.Proofs.YthpcojnpiggaiaaGreat
/-! Contracts: bytes sorted by heaps. -/
namespace Go.Proofs.YthpcojnpiggaiaaGreat
open Go
set_option linter.unusedSimpArgs false
set_option linter.unusedVariables false

set_option maxHeartbeats 2000000 in
theorem siftDown_does (b c lo hi f : Nat) (L : List UInt8) (M : Mem) (R : Value → Mem → Prop) (hM : M b = some (.cells true (bytesV L) c)) (hc : L.length ≤ c) (hl : L.length ≤ 1000000) (hlo0 : lo ≤ 1000000) (hhi : f + hi ≤ L.length) (hp : HpX f lo hi lo L)
    (h : ∀ L', SP f (f + hi) L L' → Heap f lo hi L' → R (.tuple #[]) (M.put b (.cells true (bytesV L') c))) : Does Tryz.prog 174 [.slice (some ⟨b, 0, none⟩) L.length c, .int .i64 lo, .int .i64 hi, .int .i64 f] M R := by
  refine does_fn tab_ok Tryz.func174 rfl (by kernel_rfl) (by kernel_rfl) Tryz.ntmps174 Tryz.results174 rfl ?_
  simp (disch := omega)
  refine loop_to tab_ok [8, 9, 11, 12, 13, 14, 15, 16, 17, 18, 19, 20, 21, 22, 23, 24, 25, 26, 27, 28, 29, 30, 31, 32, 33, 34, 35, 36, 37, 38, 39, 40, 41, 42, 43, 44, 45, 46, 47, 48, 49, 50, 51, 52, 53, 54, 55, 56, 57, 58, 59, 60, 61, 62, 63, 64, 65, 66, 67, 68, 69, 70, 71, 72, 73, 74, 75] (fun x : Nat × List UInt8 => [(8, .int .i64 (x.1 : Nat))]) (fun x M' => M.put b (.cells true (bytesV x.2) c) = M' ∧ lo ≤ x.1 ∧ SP f (f + hi) L x.2 ∧ HpX f lo hi x.1 x.2 ∧ x.1 ≤ 1000000) (fun x => hi - x.1) (lo, L) (by kernel_rfl) (by simp (disch := omega)) ⟨put_self hM, Nat.le_refl _, SP.refl _ _ _, hp, hlo0⟩ ?_
  rintro ⟨r, L1⟩ M' g ⟨rfl, hlo, hsp, hx, hrb⟩
  simp only at hlo hsp hx hrb
  have hl1 := hsp.len
  have kM : (M.put b (.cells true (bytesV L1) c)) b = some (.cells true (bytesV L1) c) := put_same _ _ _
  obtain ⟨ch, hcc⟩ : ∃ ch : Nat, ch = 2 * r + 1 := ⟨_, rfl⟩
  have hcI : 2 * (r : Int) + 1 = ch := by omega
  by_cases hge : hi ≤ ch
  · have hgeI : (hi : Int) ≤ ch := by omega
    simp (disch := omega) [hcI, hge, hgeI]
    exact ret_of (h L1 hsp (hx.done fun c' h1 h2 => by rcases h1 with a | a <;> omega))
  · have hgeI : ¬ (hi : Int) ≤ ch := by omega
    have hrh : r < hi := by omega
    obtain ⟨fc, hfc⟩ : ∃ fc : Nat, fc = f + ch := ⟨_, rfl⟩
    obtain ⟨fd, hfd⟩ : ∃ fd : Nat, fd = f + ch + 1 := ⟨_, rfl⟩
    have efc : (f : Int) + ch = fc := by omega
    have efd : (fc : Int) + 1 = fd := by omega
    have xch := getK kM (i := fc) (by omega)
    by_cases h1 : ch + 1 < hi
    · have h1I : (ch : Int) + 1 < hi := by omega
      have xch1 := getK kM (i := fd) (by omega)
      simp (disch := omega) [hcI, hge, hgeI]
      refine draw_to tab_ok (by kernel_rfl) (by kernel_rfl) (by rfl) ?_
      simp (disch := omega) [h1, h1I, efc, efd, xch, xch1]
      refine vQCall_at (a := []) (c := []) (lessB_does _ _ _ _ ⟨rfl, rfl⟩) ?_
      by_cases hk : K L1 fc < K L1 fd
      · rw [decide_eq_true hk]
        obtain ⟨m, hm⟩ : ∃ m : Nat, m = ch + 1 := ⟨_, rfl⟩
        have hmI : (ch : Int) + 1 = m := by omega
        have hch : Chd r m := by unfold Chd; omega
        have hmh : m < hi := by omega
        have hmax : ∀ c', Chd r c' → c' < hi → K L1 (f + c') ≤ K L1 (f + m) := fun c' a a2 => by
          rcases a with a | a
          · rw [show f + c' = fc by omega, show f + m = fd by omega]; omega
          · rw [show c' = m by omega]; exact Nat.le_refl _
        simp (disch := omega) [hmI]
        obtain ⟨fm, hfm⟩ : ∃ fm : Nat, fm = f + m := ⟨_, rfl⟩
        obtain ⟨fr, hfr⟩ : ∃ fr : Nat, fr = f + r := ⟨_, rfl⟩
        have efm : (f : Int) + m = fm := by omega
        have efr : (f : Int) + r = fr := by omega
        have km2 := getK kM (i := fm) (by omega)
        have kr2 := getK kM (i := fr) (by omega)
        have hst0 := hx.step hlo hch hmh (by omega) hmax
        have hsw := SP.swp (L := L1) (a := f) (b := f + hi) (i := fr) (j := fm) (by omega) (by omega) (by omega) (by omega) (by omega)
        rw [← hfr, ← hfm] at hst0
        refine draw_to tab_ok (by kernel_rfl) (by kernel_rfl) (by rfl) ?_
        simp (disch := omega) [efm, efr, km2, kr2]
        refine vQCall_at (a := []) (c := []) (lessB_does _ _ _ _ ⟨rfl, rfl⟩) ?_
        by_cases hkk : K L1 fr < K L1 fm
        · rw [decide_eq_true hkk]
          have hst := hst0 hkk
          simp (disch := omega)
          refine plays (lights [0, 1, 2, 3, 4, 5, 6, 7, 8, 9, 10, 11, 12, 13, 14, 15, 16, 17, 18, 19, 20] (.one 21 2 (lights [22] (.one 23 2 .fin)))) tab_ok (by kernel_rfl) (by kernel_rfl) (by rfl) ?_
          simp (disch := omega) [efm, efr, km2, kr2, kM, set_is, setK, lenK]
          refine Rnd.mk' (m, swp L1 fr fm) (by simp only; omega) (by (repeat (first | exact km | refine kp rfl ?_ | refine km' rfl ?_))) (by simp (disch := omega)) ⟨by simp only [put_put, swp_get], by simp only; omega, hsp.trans hsw, hst, by simp only; omega⟩
        · rw [decide_eq_false hkk]
          simp (disch := omega)
          exact ret_of (h L1 hsp (hx.done fun c' h1 h2 => Nat.le_trans (hmax c' h1 h2) (by rw [← hfm, ← hfr]; exact Nat.le_of_not_lt hkk)))
      · rw [decide_eq_false hk]
        obtain ⟨m, hm⟩ : ∃ m : Nat, m = ch := ⟨_, rfl⟩
        have hch : Chd r m := by unfold Chd; omega
        have hmh : m < hi := by omega
        have hmax : ∀ c', Chd r c' → c' < hi → K L1 (f + c') ≤ K L1 (f + m) := fun c' a a2 => by
          rcases a with a | a
          · rw [show c' = m by omega]; exact Nat.le_refl _
          · rw [show f + c' = fd by omega, show f + m = fc by omega]; omega
        rw [← hm]
        simp (disch := omega)
        obtain ⟨fm, hfm⟩ : ∃ fm : Nat, fm = f + m := ⟨_, rfl⟩
        obtain ⟨fr, hfr⟩ : ∃ fr : Nat, fr = f + r := ⟨_, rfl⟩
        have efm : (f : Int) + m = fm := by omega
        have efr : (f : Int) + r = fr := by omega
        have km2 := getK kM (i := fm) (by omega)
        have kr2 := getK kM (i := fr) (by omega)
        have hst0 := hx.step hlo hch hmh (by omega) hmax
        have hsw := SP.swp (L := L1) (a := f) (b := f + hi) (i := fr) (j := fm) (by omega) (by omega) (by omega) (by omega) (by omega)
        rw [← hfr, ← hfm] at hst0
        refine draw_to tab_ok (by kernel_rfl) (by kernel_rfl) (by rfl) ?_
        simp (disch := omega) [efm, efr, km2, kr2]
        refine vQCall_at (a := []) (c := []) (lessB_does _ _ _ _ ⟨rfl, rfl⟩) ?_
        by_cases hkk : K L1 fr < K L1 fm
        · rw [decide_eq_true hkk]
          have hst := hst0 hkk
          simp (disch := omega)
          refine plays (lights [0, 1, 2, 3, 4, 5, 6, 7, 8, 9, 10, 11, 12, 13, 14, 15, 16, 17, 18, 19, 20] (.one 21 2 (lights [22] (.one 23 2 .fin)))) tab_ok (by kernel_rfl) (by kernel_rfl) (by rfl) ?_
          simp (disch := omega) [efm, efr, km2, kr2, kM, set_is, setK, lenK]
          refine Rnd.mk' (m, swp L1 fr fm) (by simp only; omega) (by (repeat (first | exact km | refine kp rfl ?_ | refine km' rfl ?_))) (by simp (disch := omega)) ⟨by simp only [put_put, swp_get], by simp only; omega, hsp.trans hsw, hst, by simp only; omega⟩
        · rw [decide_eq_false hkk]
          simp (disch := omega)
          exact ret_of (h L1 hsp (hx.done fun c' h1 h2 => Nat.le_trans (hmax c' h1 h2) (by rw [← hfm, ← hfr]; exact Nat.le_of_not_lt hkk)))
    · have h1I : ¬ (ch : Int) + 1 < hi := by omega
      simp (disch := omega) [hcI, hge, hgeI]
      refine draw_to tab_ok (by kernel_rfl) (by kernel_rfl) (by rfl) ?_
      simp (disch := omega) [h1, h1I, undef]
      obtain ⟨m, hm⟩ : ∃ m : Nat, m = ch := ⟨_, rfl⟩
      have hch : Chd r m := by unfold Chd; omega
      have hmh : m < hi := by omega
      have hmax : ∀ c', Chd r c' → c' < hi → K L1 (f + c') ≤ K L1 (f + m) := fun c' a a2 => by
        rcases a with a | a
        · rw [show c' = m by omega]; exact Nat.le_refl _
        · omega
      rw [← hm]
      try simp (disch := omega)
      obtain ⟨fm, hfm⟩ : ∃ fm : Nat, fm = f + m := ⟨_, rfl⟩
      obtain ⟨fr, hfr⟩ : ∃ fr : Nat, fr = f + r := ⟨_, rfl⟩
      have efm : (f : Int) + m = fm := by omega
      have efr : (f : Int) + r = fr := by omega
      have km2 := getK kM (i := fm) (by omega)
      have kr2 := getK kM (i := fr) (by omega)
      have hst0 := hx.step hlo hch hmh (by omega) hmax
      have hsw := SP.swp (L := L1) (a := f) (b := f + hi) (i := fr) (j := fm) (by omega) (by omega) (by omega) (by omega) (by omega)
      rw [← hfr, ← hfm] at hst0
      refine draw_to tab_ok (by kernel_rfl) (by kernel_rfl) (by rfl) ?_
      simp (disch := omega) [efm, efr, km2, kr2]
      refine vQCall_at (a := []) (c := []) (lessB_does _ _ _ _ ⟨rfl, rfl⟩) ?_
      by_cases hkk : K L1 fr < K L1 fm
      · rw [decide_eq_true hkk]
        have hst := hst0 hkk
        simp (disch := omega)
        refine plays (lights [0, 1, 2, 3, 4, 5, 6, 7, 8, 9, 10, 11, 12, 13, 14, 15, 16, 17, 18, 19, 20] (.one 21 2 (lights [22] (.one 23 2 .fin)))) tab_ok (by kernel_rfl) (by kernel_rfl) (by rfl) ?_
        simp (disch := omega) [efm, efr, km2, kr2, kM, set_is, setK, lenK]
        refine Rnd.mk' (m, swp L1 fr fm) (by simp only; omega) (by (repeat (first | exact km | refine kp rfl ?_ | refine km' rfl ?_))) (by simp (disch := omega)) ⟨by simp only [put_put, swp_get], by simp only; omega, hsp.trans hsw, hst, by simp only; omega⟩
      · rw [decide_eq_false hkk]
        simp (disch := omega)
        exact ret_of (h L1 hsp (hx.done fun c' h1 h2 => Nat.le_trans (hmax c' h1 h2) (by rw [← hfm, ← hfr]; exact Nat.le_of_not_lt hkk)))
theorem heapSort_does (b c lo hi : Nat) (L : List UInt8) (M : Mem) (R : Value → Mem → Prop) (hM : M b = some (.cells true (bytesV L) c)) (hc : L.length ≤ c) (hl : L.length ≤ 1000000) (hlo : lo < hi) (hhi : hi ≤ L.length)
    (h : ∀ L', SP lo hi L L' → SS lo hi L' → R (.tuple #[]) (M.put b (.cells true (bytesV L') c))) : Does Tryz.prog 150 [.slice (some ⟨b, 0, none⟩) L.length c, .int .i64 lo, .int .i64 hi] M R := by
  obtain ⟨n, hn⟩ : ∃ n : Nat, n = hi - lo := ⟨_, rfl⟩
  have hnI : (hi : Int) - lo = n := by omega
  have hhe : hi = lo + n := by omega
  obtain ⟨k0, hk0⟩ : ∃ k0 : Nat, k0 = (n - 1) / 2 := ⟨_, rfl⟩
  have hkI : ((n : Int) - 1).tdiv 2 = k0 := by
    have : (n : Int) - 1 = ((n - 1 : Nat) : Int) := by omega
    rw [this, hk0]; rfl
  refine does_fn tab_ok Tryz.func150 rfl (by kernel_rfl) (by kernel_rfl) Tryz.ntmps150 Tryz.results150 rfl ?_
  simp (disch := omega) [hnI, hkI]
  refine loop_to tab_ok [9, 18, 19, 20, 21, 22, 23, 24, 25, 26] (fun x : Nat × List UInt8 => [(9, .int .i64 ((x.1 : Int) - 1))]) (fun x M' => M.put b (.cells true (bytesV x.2) c) = M' ∧ x.1 ≤ n ∧ SP lo (lo + n) L x.2 ∧ Heap lo x.1 n x.2) (fun x => x.1) (k0 + 1, L) (by kernel_rfl) (by simp (disch := omega)) ⟨put_self hM, by simp only; omega, SP.refl _ _ _, fun i c' h1 h2 h3 => by rcases h2 with a | a <;> simp only at h1 <;> omega⟩ ?_
  rintro ⟨k, L1⟩ M' g ⟨rfl, hk, hsp, hhp⟩
  simp only at hk hsp hhp
  have hl1 := hsp.len
  have kM : (M.put b (.cells true (bytesV L1) c)) b = some (.cells true (bytesV L1) c) := put_same _ _ _
  by_cases hkz : k = 0
  · subst hkz
    have hneg : ¬ (0 : Int) ≤ ((0 : Nat) : Int) - 1 := by omega
    simp (disch := omega) [hneg]
    refine loop_to tab_ok [10, 29, 30, 31, 32, 33, 34, 35, 36, 37, 38, 39, 40, 41, 42, 43, 44, 45, 46, 47, 48, 49, 50, 51, 52, 53, 54, 55] (fun x : Nat × List UInt8 => [(10, .int .i64 ((x.1 : Int) - 1))]) (fun x M' => M.put b (.cells true (bytesV x.2) c) = M' ∧ x.1 ≤ n ∧ SP lo (lo + n) L x.2 ∧ Pop lo n x.1 x.2) (fun x => x.1) (n, L1) (by kernel_rfl) (by simp (disch := omega)) ⟨rfl, Nat.le_refl _, hsp, ⟨hhp, SS.one _ (by omega), fun x y h1 h2 h3 => by omega⟩⟩ ?_
    clear hsp hhp hl1 kM
    rintro ⟨i, L2⟩ M' g ⟨rfl, hi, hsp, hpop⟩
    simp only at hi hsp hpop
    have hl2 := hsp.len
    have kM : (M.put b (.cells true (bytesV L2) c)) b = some (.cells true (bytesV L2) c) := put_same _ _ _
    by_cases hiz : i = 0
    · subst hiz
      have hneg : ¬ (0 : Int) ≤ ((0 : Nat) : Int) - 1 := by omega
      simp (disch := omega) [hneg]
      have hs := hpop.sort
      rw [Nat.add_zero] at hs
      rw [← hhe] at hsp hs
      exact ret_of (h L2 hsp hs)
    · obtain ⟨j, rfl⟩ : ∃ j, i = j + 1 := ⟨i - 1, by omega⟩
      have hj1 : ((j + 1 : Nat) : Int) - 1 = j := by omega
      have hst := hpop.step (by omega) (by omega)
      have hsw := SP.swp (L := L2) (a := lo) (b := lo + n) (i := lo) (j := lo + j) (by omega) (by omega) (by omega) (by omega) (by omega)
      have hsl := swp_len L2 lo (lo + j)
      obtain ⟨lj, hlj⟩ : ∃ lj : Nat, lj = lo + j := ⟨_, rfl⟩
      have elj : (lo : Int) + j = lj := by omega
      rw [← hlj] at hst hsw hsl
      have x0 := getK kM (i := lo) (by omega)
      have xj := getK kM (i := lj) (by omega)
      rw [hj1]
      simp (disch := omega)
      refine plays (lights [0, 1, 2, 3, 4, 5, 6, 7, 8, 9, 10, 11, 12, 13, 14, 15, 16] (.one 17 2 (lights [18] (.one 19 2 .fin)))) tab_ok (by kernel_rfl) (by kernel_rfl) (by rfl) ?_
      simp (disch := omega) [elj, x0, xj, kM, set_is, setK, lenK]
      simp only [put_put, swp_get]
      have kM2 : (M.put b (.cells true (bytesV (swp L2 lo lj)) c)) b = some (.cells true (bytesV (swp L2 lo lj)) c) := put_same _ _ _
      rw [show L.length = (swp L2 lo lj).length by omega]
      refine siftDown_does b c 0 j lo (swp L2 lo lj) _ _ kM2 (by omega) (by omega) (by omega) (by omega) hst.1 ?_
      intro L3 hs3 hh3
      rw [put_put]
      simp (disch := omega)
      refine Rnd.mk' (j, L3) (by simp only; omega) (by (repeat (first | exact km | refine kp rfl ?_ | refine km' rfl ?_))) (by simp (disch := omega)) ⟨rfl, by simp only; omega, (hsp.trans hsw).trans (hs3.mono (Nat.le_refl _) (by omega)), Pop.next hs3 hh3 (by show SS (lo + j) _ _; rw [← hlj]; exact hst.2.1) hst.2.2⟩
  · obtain ⟨j, rfl⟩ : ∃ j, k = j + 1 := ⟨k - 1, by omega⟩
    have hj1 : ((j + 1 : Nat) : Int) - 1 = j := by omega
    rw [hj1]
    simp (disch := omega)
    rw [show L.length = L1.length by omega]
    refine siftDown_does b c j n lo L1 _ _ kM (by omega) (by omega) (by omega) (by omega) hhp.start ?_
    intro L3 hs3 hh3
    rw [put_put]
    simp (disch := omega)
    refine Rnd.mk' (j, L3) (by simp only; omega) (by (repeat (first | exact km | refine kp rfl ?_ | refine km' rfl ?_))) (by simp (disch := omega)) ⟨rfl, by simp only; omega, hsp.trans hs3, hh3⟩
end Go.Proofs.YthpcojnpiggaiaaGreat

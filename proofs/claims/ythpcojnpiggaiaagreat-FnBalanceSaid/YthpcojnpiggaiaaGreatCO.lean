/- Merged: C107 M29 C108 C109. -/
import Derived.Test.YthpcojnpiggaiaaGreatCN
import Derived.Test.YthpcojnpiggaiaaGreatE11
/-! Contracts: patterns broken up (bytes). -/
namespace Go.Proofs.YthpcojnpiggaiaaGreat
open Go Go.RowKit
set_option linter.unusedSimpArgs false
set_option linter.unusedVariables false

theorem wrap64_in (z : Int) : 0 ≤ IntKind.u64.wrap z ∧ IntKind.u64.wrap z < 18446744073709551616 := by
  have e : IntKind.u64.wrap z = z % 18446744073709551616 := IntKind.wrap_u64 z
  rw [e]
  exact ⟨Int.emod_nonneg _ (by decide), Int.emod_lt_of_pos _ (by decide)⟩
theorem wrap64_id {z : Int} (h : 0 ≤ z) (h2 : z < 18446744073709551616) : IntKind.u64.wrap z = z := by
  have e : IntKind.u64.wrap z = z % 18446744073709551616 := IntKind.wrap_u64 z
  rw [e]
  exact Int.emod_eq_of_lt h h2
theorem and64_le (z : Int) {m : Nat} (hm : m < 1000) : ∃ r : Nat, r ≤ m ∧ IntKind.u64.wrap (BitVec.ofInt IntKind.u64.bits z &&& BitVec.ofInt IntKind.u64.bits (m : Int)).toNat = r := by
  refine ⟨(BitVec.ofInt 64 z &&& BitVec.ofInt 64 (m : Int)).toNat, ?_, ?_⟩
  · rw [BitVec.toNat_and]
    have : (BitVec.ofInt 64 (m : Int)).toNat = m := by
      rw [BitVec.toNat_ofInt]
      omega
    rw [this]
    exact Nat.and_le_right
  · refine wrap64_id (Int.natCast_nonneg _) ?_
    have := (BitVec.ofInt 64 z &&& BitVec.ofInt 64 (m : Int)).isLt
    show ((BitVec.ofInt 64 z &&& BitVec.ofInt 64 (m : Int)).toNat : Int) < _
    omega
theorem and64_is (z : Int) {m : Nat} (h1 : 1 ≤ m) (hm : m < 1000) : ∃ r : Nat, r ≤ m - 1 ∧ IntKind.u64.wrap (((z % 2 ^ IntKind.u64.bits).toNat &&& (IntKind.u64.wrap ((m : Int) - 1) % 2 ^ IntKind.u64.bits).toNat : Nat) : Int) = r := by
  have e0 : IntKind.u64.bits = 64 := rfl
  have e1 : IntKind.u64.wrap ((m : Int) - 1) = (m : Int) - 1 := wrap64_id (by omega) (by omega)
  rw [e1, e0]
  have e2 : (((m : Int) - 1) % 2 ^ 64).toNat = m - 1 := by omega
  rw [e2]
  refine ⟨_, Nat.and_le_right, wrap64_id (Int.natCast_nonneg _) ?_⟩
  have := Nat.and_le_right (n := (z % 2 ^ 64).toNat) (m := m - 1)
  omega
theorem pow_len : ∀ n : Fin 65, 8 ≤ n.val → n.val < 2 ^ (Lib.bitLen n.val) ∧ 2 ^ (Lib.bitLen n.val) ≤ 2 * n.val ∧ Lib.bitLen n.val ≤ 8 := by decide
theorem sub_other {M N : Mem} {b : Nat} {B B' : Blk} (h : Sub (M.put b B) N) : Sub (M.put b B') (N.put b B') := by
  intro i X hi
  by_cases e : i = b
  · subst e; rw [put_same] at hi ⊢; exact hi
  · rw [put_ne _ _ e] at hi ⊢
    exact h i X (by rw [put_ne _ _ e]; exact hi)
theorem bitsLen9_does (x : Nat) (M : Mem) (R : Value → Mem → Prop) (hx : x ≤ 1000000) (h : R (.int .i64 (Lib.bitLen x : Nat)) M) : Does Tryz.prog 127 [.int .u64 x] M R := by
  refine does_below (.int .i64 (Lib.bitLen x : Nat)) ⟨_, Tryz.func127, by kernel_rfl, by kernel_rfl⟩ (fun w hw => ?_) h
  refine (Tryz.bits_Len x w (by omega) (by omega)).mono fun e w' ⟨h1, h2⟩ => ⟨h1, by rw [h2]; exact Go.RowKit.Below.refl _ _⟩
theorem xorNext_does (rb : Nat) (x : Int) (M : Mem) (R : Value → Mem → Prop) (hM : M rb = some (.cells true [.int .u64 x] 1))
    (h : ∀ y, R (.int .u64 y) (M.put rb (.cells true [.int .u64 y] 1))) : Does Tryz.prog 169 [.pointer (some ⟨rb, 0, none⟩)] M R := by
  refine does_fn tab_ok Tryz.func169 rfl (by kernel_rfl) (by kernel_rfl) Tryz.ntmps169 Tryz.results169 rfl ?_
  simp (disch := omega)
  refine plays (lights [0, 1, 2, 3, 4, 5, 6, 7, 8] (.one 9 2 .fin)) tab_ok (by kernel_rfl) (by kernel_rfl) (by rfl) ?_
  simp (disch := omega) [get_of hM, sub_of hM, hM, set_is]
  generalize IntKind.u64.wrap _ = x1
  have h1 : (M.put rb (.cells true [.int .u64 x1] 1)) rb = some (.cells true [.int .u64 x1] 1) := put_same _ _ _
  refine plays (lights [0, 1, 2, 3, 4, 5, 6, 7, 8] (.one 9 2 .fin)) tab_ok (by kernel_rfl) (by kernel_rfl) (by rfl) ?_
  simp (disch := omega) [get_of h1, sub_of h1, h1, set_is, put_put]
  generalize IntKind.u64.wrap _ = x2
  have h2 : (M.put rb (.cells true [.int .u64 x2] 1)) rb = some (.cells true [.int .u64 x2] 1) := put_same _ _ _
  refine plays (lights [0, 1, 2, 3, 4, 5, 6, 7, 8] (.one 9 2 .fin)) tab_ok (by kernel_rfl) (by kernel_rfl) (by rfl) ?_
  simp (disch := omega) [get_of h2, sub_of h2, h2, set_is, put_put]
  generalize IntKind.u64.wrap _ = x3
  have h3 : (M.put rb (.cells true [.int .u64 x3] 1)) rb = some (.cells true [.int .u64 x3] 1) := put_same _ _ _
  try simp (disch := omega) [get_of h3, sub_of h3, h3]
  exact ret_of (h x3)
theorem nextPow_does (n : Nat) (M : Mem) (R : Value → Mem → Prop) (h8 : 8 ≤ n) (hn : n ≤ 64) (h : ∀ m : Nat, n < m → m ≤ 2 * n → R (.int .u64 m) M) : Does Tryz.prog 168 [.int .i64 n] M R := by
  obtain ⟨p1, p2, p3⟩ := pow_len ⟨n, by omega⟩ h8
  simp only at p1 p2 p3
  have hw : IntKind.u64.wrap (n : Int) = n := wrap64_id (by omega) (by omega)
  refine does_fn tab_ok Tryz.func168 rfl (by kernel_rfl) (by kernel_rfl) Tryz.ntmps168 Tryz.results168 rfl ?_
  simp (disch := omega) [hw]
  refine bitsLen9_does n _ _ (by omega) ?_
  have hf := h (2 ^ Lib.bitLen n) p1 p2
  generalize Lib.bitLen n = k at *
  have hmin : min k IntKind.u64.bits = k := by show min k 64 = k; omega
  obtain ⟨m, hm⟩ : ∃ m : Nat, m = 2 ^ k := ⟨_, rfl⟩
  rw [← hm] at hf p1 p2
  have hp : IntKind.u64.wrap (2 ^ (min k IntKind.u64.bits)) = m := by
    rw [hmin, show ((2 : Int) ^ k) = ((2 ^ k : Nat) : Int) by push_cast; rfl, ← hm]
    exact wrap64_id (by omega) (by omega)
  have hp2 : IntKind.u64.wrap (1 * 2 ^ (min k IntKind.u64.bits)) = m := by rw [Int.one_mul]; exact hp
  have hp3 : IntKind.u64.wrap (2 ^ k) = m := by rw [hmin] at hp; exact hp
  simp (disch := omega) [hp, hp2, hp3]
  exact ret_of hf
theorem breakP_does (b c lo hi : Nat) (L : List UInt8) (M : Mem) (R : Value → Mem → Prop) (hM : M b = some (.cells true (bytesV L) c)) (hc : L.length ≤ c) (hl : L.length ≤ 64) (hlo : lo + 8 ≤ hi) (hhi : hi ≤ L.length)
    (h : ∀ L' M', SP lo hi L L' → Sub (M.put b (.cells true (bytesV L') c)) M' → R (.tuple #[]) M') : Does Tryz.prog 151 [.slice (some ⟨b, 0, none⟩) L.length c, .int .i64 lo, .int .i64 hi] M R := by
  obtain ⟨n, hn⟩ : ∃ n : Nat, n = hi - lo := ⟨_, rfl⟩
  have hnI : (hi : Int) - lo = n := by omega
  have h8 : 8 ≤ n := by omega
  have h8I : (8 : Int) ≤ n := by omega
  have hw : IntKind.u64.wrap (n : Int) = n := wrap64_id (by omega) (by omega)
  refine does_fn tab_ok Tryz.func151 rfl (by kernel_rfl) (by kernel_rfl) Tryz.ntmps151 Tryz.results151 rfl ?_
  simp (disch := omega) [hnI, h8, h8I, hw]
  intro rb hrb
  have hne : b ≠ rb := by rintro rfl; rw [hrb] at hM; cases hM
  simp (disch := omega) [hnI, hw, put_put]
  refine nextPow_does n _ _ h8 (by omega) ?_
  intro m hm1 hm2
  obtain ⟨q, hq⟩ : ∃ q : Nat, q = n / 4 := ⟨_, rfl⟩
  have hqI : (n : Int).tdiv 4 = q := by rw [hq]; rfl
  obtain ⟨base, hbase⟩ : ∃ base : Nat, base + 1 = lo + q * 2 := ⟨lo + q * 2 - 1, by omega⟩
  have hbI : (lo : Int) + (q : Int) * 2 - 1 = base := by omega
  have hbI2 : (lo : Int) + (q : Int) * 2 + 1 = (base : Int) + 2 := by omega
  have k0 : (M.put rb (.cells true [.int .u64 (n : Int)] 1)) b = some (.cells true (bytesV L) c) := by rw [put_ne _ _ hne]; exact hM
  simp (disch := omega) [hqI, hbI]
  refine loop_to tab_ok [9, 10, 26, 27, 28, 29, 30, 31, 32, 33, 34, 35, 36, 37, 38, 39, 40, 41, 42, 43, 44, 45, 46, 47, 48, 49, 50, 51, 52, 53, 54, 55, 56, 57, 58, 59, 60, 61, 62, 63, 64] (fun x : Nat × List UInt8 × Int => [(9, .int .i64 ((base : Int) + x.1))]) (fun x N => Sub (M.put b (.cells true (bytesV x.2.1) c)) N ∧ N rb = some (.cells true [.int .u64 x.2.2] 1) ∧ SP lo hi L x.2.1 ∧ x.1 ≤ 3) (fun x => 3 - x.1) (0, L, (n : Int)) (by kernel_rfl) (by simp (disch := omega)) ⟨by rw [put_self hM]; exact (Sub.refl M).put hrb _, put_same _ _ _, SP.refl _ _ _, by simp only; omega⟩ ?_
  rintro ⟨k, L1, y⟩ N g ⟨sN, hr, hsp, hk⟩
  simp only at sN hr hsp hk
  have hl1 := hsp.len
  by_cases hk3 : k < 3
  · have hle : (base : Int) + k ≤ (base : Int) + 2 := by omega
    simp (disch := omega) [hqI, hbI2, hle]
    refine xorNext_does rb y _ _ hr ?_
    intro z
    obtain ⟨r, hr1, hr2⟩ := and64_is z (m := m) (by omega) (by omega)
    have kb := sN _ _ (put_same _ _ _)
    have kb2 : (N.put rb (.cells true [.int .u64 z] 1)) b = some (.cells true (bytesV L1) c) := by rw [put_ne _ _ hne]; exact kb
    have kr2 : (N.put rb (.cells true [.int .u64 z] 1)) rb = some (.cells true [.int .u64 z] 1) := put_same _ _ _
    have sN2 : Sub (M.put b (.cells true (bytesV L1) c)) (N.put rb (.cells true [.int .u64 z] 1)) := by
      intro i X hi
      by_cases e : i = rb
      · subst e; rw [put_ne _ _ (Ne.symm hne), hrb] at hi; cases hi
      · rw [put_ne _ _ e]; exact sN _ _ hi
    generalize N.put rb (.cells true [.int .u64 z] 1) = N2 at *
    obtain ⟨p, hp⟩ : ∃ p : Nat, p = base + k := ⟨_, rfl⟩
    have hpI : (base : Int) + k = p := by omega
    have hpI2 : (base : Int) + ((k : Int) + 1) = (p : Int) + 1 := by omega
    rw [hpI]
    by_cases hge : n ≤ r
    · obtain ⟨o, ho⟩ : ∃ o : Nat, o = r - n := ⟨_, rfl⟩
      have hoI : (r : Int) - n = o := by omega
      have hgeI : (n : Int) ≤ r := by omega
      obtain ⟨t, ht⟩ : ∃ t : Nat, t = lo + o := ⟨_, rfl⟩
      have htI : (lo : Int) + o = t := by omega
      have xp := getK kb2 (i := p) (by omega)
      have xt := getK kb2 (i := t) (by omega)
      have hsw := SP.swp (L := L1) (a := lo) (b := hi) (i := p) (j := t) (by omega) (by omega) (by omega) (by omega) (by omega)
      simp (disch := omega) [hr2, hge, hgeI, hoI]
      refine plays (lights [0, 1, 2, 3, 4, 5, 6, 7, 8, 9, 10, 11, 12, 13, 14, 15, 16] (.one 17 2 (lights [18] (.one 19 2 .fin)))) tab_ok (by kernel_rfl) (by kernel_rfl) (by rfl) ?_
      simp (disch := omega) [htI, xp, xt, kb2, set_is, setK, lenK]
      simp only [put_put, swp_get]
      refine Rnd.mk' (k + 1, swp L1 p t, z) (by simp only; omega) (by (repeat (first | exact km | refine kp rfl ?_ | refine km' rfl ?_))) (by simp (disch := omega) [hpI2]; try omega) ⟨sub_other sN2, by rw [put_ne _ _ (Ne.symm hne)]; exact kr2, hsp.trans hsw, by simp only; omega⟩
    · have hgeI : ¬ (n : Int) ≤ r := by omega
      obtain ⟨t, ht⟩ : ∃ t : Nat, t = lo + r := ⟨_, rfl⟩
      have htI : (lo : Int) + r = t := by omega
      have xp := getK kb2 (i := p) (by omega)
      have xt := getK kb2 (i := t) (by omega)
      have hsw := SP.swp (L := L1) (a := lo) (b := hi) (i := p) (j := t) (by omega) (by omega) (by omega) (by omega) (by omega)
      simp (disch := omega) [hr2, hge, hgeI]
      refine plays (lights [0, 1, 2, 3, 4, 5, 6, 7, 8, 9, 10, 11, 12, 13, 14, 15, 16] (.one 17 2 (lights [18] (.one 19 2 .fin)))) tab_ok (by kernel_rfl) (by kernel_rfl) (by rfl) ?_
      simp (disch := omega) [htI, xp, xt, kb2, set_is, setK, lenK]
      simp only [put_put, swp_get]
      refine Rnd.mk' (k + 1, swp L1 p t, z) (by simp only; omega) (by (repeat (first | exact km | refine kp rfl ?_ | refine km' rfl ?_))) (by simp (disch := omega) [hpI2]; try omega) ⟨sub_other sN2, by rw [put_ne _ _ (Ne.symm hne)]; exact kr2, hsp.trans hsw, by simp only; omega⟩
  · have hle : ¬ (base : Int) + k ≤ (base : Int) + 2 := by omega
    simp (disch := omega) [hqI, hbI2, hle]
    exact ret_of (h L1 N hsp sN)
end Go.Proofs.YthpcojnpiggaiaaGreat
/-! Plain law: bytes parted by a pivot. -/
namespace Go.Proofs.YthpcojnpiggaiaaGreat
set_option linter.unusedVariables false

/-- Places that are parted so far: A before i, B behind j; the pivot P stands at lo. -/
structure PI (lo hi i j P : Nat) (A B : Nat → Prop) (L : List UInt8) : Prop where
  head : K L lo = P
  i1 : lo + 1 ≤ i
  ij : i ≤ j + 1
  jl : lo ≤ j
  jh : j < hi
  a : ∀ x, lo < x → x < i → A (K L x)
  b : ∀ y, j < y → y < hi → B (K L y)
theorem PI.incI {lo hi i j P : Nat} {A B : Nat → Prop} {L : List UInt8} (h : PI lo hi i j P A B L) (hij : i ≤ j) (ha : A (K L i)) : PI lo hi (i + 1) j P A B L :=
  ⟨h.head, by have := h.i1; omega, by omega, h.jl, h.jh, fun x h1 h2 => by
    by_cases e : x = i
    · subst e; exact ha
    · exact h.a x h1 (by omega), h.b⟩
theorem PI.decJ {lo hi i j P : Nat} {A B : Nat → Prop} {L : List UInt8} (h : PI lo hi i (j + 1) P A B L) (hij : i ≤ j + 1) (hb : B (K L (j + 1))) : PI lo hi i j P A B L :=
  ⟨h.head, h.i1, hij, by have := h.i1; omega, by have := h.jh; omega, h.a, fun y h1 h2 => by
    by_cases e : y = j + 1
    · subst e; exact hb
    · exact h.b y (by omega) h2⟩
theorem PI.swap {lo hi i j P : Nat} {A B : Nat → Prop} {L : List UInt8} (h : PI lo hi i (j + 1) P A B L) (hij : i < j + 1) (hl : hi ≤ L.length) (ha : A (K L (j + 1))) (hb : B (K L i)) : PI lo hi (i + 1) j P A B (swp L i (j + 1)) := by
  have h1 := h.i1
  have h2 := h.jh
  have kk := K_swp (L := L) (i := i) (j := j + 1) (by omega) (by omega)
  refine ⟨by rw [kk, if_neg (by omega), if_neg (by omega)]; exact h.head, by omega, by omega, by omega, by omega, fun x a1 a2 => ?_, fun y a1 a2 => ?_⟩
  · rw [kk, if_neg (by omega)]
    by_cases e : x = i
    · rw [if_pos e]; exact ha
    · rw [if_neg e]; exact h.a x a1 (by omega)
  · rw [kk]
    by_cases e : y = j + 1
    · rw [if_pos e]; exact hb
    · rw [if_neg e, if_neg (by omega)]; exact h.b y (by omega) a2
/-- The pivot put between the parts. -/
theorem PI.fin {lo hi i j P : Nat} {L : List UInt8} (h : PI lo hi i j P (fun v => v < P) (fun v => P ≤ v) L) (hij : j < i) (hl : hi ≤ L.length) : (∀ x, lo ≤ x → x < j → K (swp L j lo) x ≤ K (swp L j lo) j) ∧ ∀ y, j < y → y < hi → K (swp L j lo) j ≤ K (swp L j lo) y := by
  have h1 := h.jl
  have h2 := h.jh
  have h3 := h.ij
  have hh := h.head
  have kk := K_swp (L := L) (i := j) (j := lo) (by omega) (by omega)
  have hj : K (swp L j lo) j = P := by
    rw [kk]
    by_cases e : j = lo
    · rw [if_pos e, e]; exact hh
    · rw [if_neg e, if_pos rfl]; exact hh
  refine ⟨fun x a1 a2 => ?_, fun y a1 a2 => ?_⟩
  · rw [hj, kk]
    by_cases e : x = lo
    · rw [if_pos e]
      have := h.a j (by omega) (by omega)
      exact Nat.le_of_lt this
    · rw [if_neg e, if_neg (by omega)]
      exact Nat.le_of_lt (h.a x (by omega) (by omega))
  · rw [hj, kk, if_neg (by omega), if_neg (by omega)]
    exact h.b y a1 a2
end Go.Proofs.YthpcojnpiggaiaaGreat
/-! Contracts: bytes parted by a pivot (printed by bin/gen108.py). -/
namespace Go.Proofs.YthpcojnpiggaiaaGreat
open Go
set_option linter.unusedSimpArgs false
set_option linter.unusedVariables false

set_option maxHeartbeats 4000000 in
theorem partitionEq_does (b c lo hi pv : Nat) (L : List UInt8) (M : Mem) (R : Value → Mem → Prop) (hM : M b = some (.cells true (bytesV L) c)) (hc : L.length ≤ c) (hl : L.length ≤ 1000000) (hlo : lo < hi) (hhi : hi ≤ L.length) (hp1 : lo ≤ pv) (hp2 : pv < hi)
    (h : ∀ L' m, lo < m → m ≤ hi → SP lo hi L L' → (∀ x, lo ≤ x → x < m → K L' x ≤ K L pv) → (∀ y, m ≤ y → y < hi → K L pv < K L' y) → R (.int .i64 (m : Nat)) (M.put b (.cells true (bytesV L') c))) : Does Tryz.prog 156 [.slice (some ⟨b, 0, none⟩) L.length c, .int .i64 lo, .int .i64 hi, .int .i64 pv] M R := by
  refine does_fn tab_ok Tryz.func156 rfl (by kernel_rfl) (by kernel_rfl) Tryz.ntmps156 Tryz.results156 rfl ?_
  have xlo := getK hM (i := lo) (by omega)
  have xpv := getK hM (i := pv) (by omega)
  have hsw0 := SP.swp (L := L) (a := lo) (b := hi) (i := lo) (j := pv) (by omega) (by omega) (by omega) (by omega) (by omega)
  have hkk0 := K_swp (L := L) (i := lo) (j := pv) (by omega) (by omega) lo
  simp (disch := omega)
  refine plays (lights [0, 1, 2, 3, 4, 5, 6, 7, 8, 9, 10, 11, 12] (.one 13 2 (lights [14] (.one 15 2 .fin)))) tab_ok (by kernel_rfl) (by kernel_rfl) (by rfl) ?_
  simp (disch := omega) [xlo, xpv, hM, set_is, setK, lenK]
  simp only [put_put, swp_get]
  obtain ⟨L0, hL0⟩ : ∃ L0, L0 = swp L lo pv := ⟨_, rfl⟩
  rw [← hL0] at hsw0 hkk0 ⊢
  obtain ⟨P, hPP⟩ : ∃ P, P = K L0 lo := ⟨_, rfl⟩
  obtain ⟨jz, hjz⟩ : ∃ jz : Nat, jz = hi - 1 := ⟨_, rfl⟩
  have hjzI : (hi : Int) - 1 = jz := by omega
  have hsp := hsw0
  have hl1 := hsp.len
  have hP0 : PI lo hi (lo + 1) jz P (fun v => v ≤ P) (fun v => P < v) L0 := ⟨hPP.symm, by omega, by omega, by omega, by omega, fun x h1 h2 => by omega, fun y h1 h2 => by omega⟩
  have kM : (M.put b (.cells true (bytesV L0) c)) b = some (.cells true (bytesV L0) c) := put_same _ _ _
  have hlo1 : (lo : Int) + 1 = ((lo + 1 : Nat) : Int) := by omega
  rw [hjzI]
  have hPv : P = K L pv := by
    rw [hPP, hkk0]
    by_cases e : lo = pv
    · rw [if_pos e, e]
    · rw [if_neg e, if_pos rfl]
  refine loop_to tab_ok [9, 10, 29, 30, 31, 32, 33, 34, 35, 36, 37, 38, 39, 40, 41, 42, 43, 44, 45, 46, 47, 48, 49, 50, 51, 52, 53, 54, 55, 56, 57, 58, 59, 60, 61, 62, 63, 64, 65, 66, 67, 68, 69, 70, 71, 72, 73, 74, 75, 76, 77, 78, 79, 80, 81, 82] (fun x : Nat × Nat × List UInt8 => [(9, .int .i64 (x.1 : Nat)), (10, .int .i64 (x.2.1 : Nat))]) (fun x M' => M.put b (.cells true (bytesV x.2.2) c) = M' ∧ SP lo hi L x.2.2 ∧ PI lo hi x.1 x.2.1 P (fun v => v ≤ P) (fun v => P < v) x.2.2) (fun x => x.2.1 + 1 - x.1) (lo + 1, jz, L0) (by kernel_rfl) (by simp (disch := omega)) ⟨rfl, hsp, hP0⟩ ?_
  clear hP0 kM hsp hl1 hsw0
  rintro ⟨i2, j2, L2⟩ M' g ⟨rfl, hsp, hP2⟩
  simp only at hsp hP2
  have hl1 := hsp.len
  have kM : (M.put b (.cells true (bytesV L2) c)) b = some (.cells true (bytesV L2) c) := put_same _ _ _
  simp (disch := omega)
  refine loop_to tab_ok [9, 29, 30, 31, 32, 33, 34, 35, 36, 37, 38, 39, 40, 41, 42, 43, 44, 45] (fun i : Nat => [(9, .int .i64 (i : Nat))]) (fun i M' => M.put b (.cells true (bytesV L2) c) = M' ∧ PI lo hi i j2 P (fun v => v ≤ P) (fun v => P < v) L2 ∧ i2 ≤ i) (fun i => j2 + 1 - i) i2 (by kernel_rfl) (by simp (disch := omega)) ⟨rfl, hP2, Nat.le_refl _⟩ ?_
  rintro i M' g1 ⟨rfl, hP, hi0⟩
  have b1 := hP.i1
  have b2 := hP.ij
  have b3 := hP.jh
  have b4 := hP.jl
  have hhd := hP.head
  have x0 := getK kM (i := lo) (by omega)
  by_cases hij : i ≤ j2
  · have hijI : (i : Int) ≤ j2 := by omega
    have xi := getK kM (i := i) (by omega)
    simp (disch := omega)
    refine draw_to tab_ok (by kernel_rfl) (by kernel_rfl) (by rfl) ?_
    simp (disch := omega) [hij, hijI, x0, xi]
    refine vQCall_at (a := []) (c := []) (lessB_does _ _ _ _ ⟨rfl, rfl⟩) ?_
    by_cases hk : K L2 lo < K L2 i
    · rw [decide_eq_true hk]
      simp (disch := omega)
      refine loop_to tab_ok [10, 46, 47, 48, 49, 50, 51, 52, 53, 54, 55, 56, 57, 58, 59, 60, 61] (fun j : Nat => [(10, .int .i64 (j : Nat))]) (fun j M' => M.put b (.cells true (bytesV L2) c) = M' ∧ PI lo hi i j P (fun v => v ≤ P) (fun v => P < v) L2 ∧ j ≤ j2) (fun j => j) j2 (by kernel_rfl) (by simp (disch := omega)) ⟨rfl, hP, Nat.le_refl _⟩ ?_
      clear hP b1 b2 b3 b4
      rintro j M' g2 ⟨rfl, hP, hj0⟩
      have b1 := hP.i1
      have b2 := hP.ij
      have b3 := hP.jh
      have b4 := hP.jl
      by_cases hij : i ≤ j
      · have hijI : (i : Int) ≤ j := by omega
        have xj := getK kM (i := j) (by omega)
        simp (disch := omega)
        refine draw_to tab_ok (by kernel_rfl) (by kernel_rfl) (by rfl) ?_
        simp (disch := omega) [hij, hijI, x0, xj]
        refine vQCall_at (a := []) (c := []) (lessB_does _ _ _ _ ⟨rfl, rfl⟩) ?_
        by_cases hk2 : K L2 lo < K L2 j
        · rw [decide_eq_true hk2]
          obtain ⟨j, rfl⟩ : ∃ j', j = j' + 1 := ⟨j - 1, by omega⟩
          have hj1 : ((j + 1 : Nat) : Int) - 1 = j := by omega
          have hj2 : ((j : Int) + 1) - 1 = j := by omega
          simp (disch := omega) [hj1, hj2]
          refine Rnd.mk' j (by omega) (by (repeat (first | exact km | refine kp rfl ?_ | refine km' rfl ?_))) (by simp (disch := omega)) ⟨rfl, hP.decJ hij (by show P < K L2 (j + 1); omega), by omega⟩
        · rw [decide_eq_false hk2]
          have hlt : i < j := by
            rcases Nat.lt_or_ge i j with hh | hh
            · exact hh
            · have e : i = j := by omega
              subst e
              omega
          obtain ⟨j, rfl⟩ : ∃ j', j = j' + 1 := ⟨j - 1, by omega⟩
          have hPn := hP.swap hlt (by omega) (by show K L2 (j + 1) ≤ P; omega) (by show P < K L2 i; omega)
          have hsw := SP.swp (L := L2) (a := lo) (b := hi) (i := i) (j := j + 1) (by omega) (by omega) (by omega) (by omega) (by omega)
          have hnji : ¬ ((j + 1 : Nat) : Int) < i := by omega
          have hnji2 : ¬ (j : Int) + 1 < i := by omega
          have hnji3 : ¬ j + 1 < i := by omega
          have hj1 : ((j + 1 : Nat) : Int) - 1 = j := by omega
          have hj2 : ((j : Int) + 1) - 1 = j := by omega
          simp (disch := omega) [hnji, hnji2, hnji3]
          refine plays (lights [0, 1, 2, 3, 4, 5, 6, 7, 8, 9, 10, 11, 12] (.one 13 2 (lights [14] (.one 15 2 .fin)))) tab_ok (by kernel_rfl) (by kernel_rfl) (by rfl) ?_
          simp (disch := omega) [xi, xj, kM, set_is, setK, lenK, hj1, hj2]
          simp only [put_put, swp_get]
          refine Rnd.mk' (i + 1, j, swp L2 i (j + 1)) (by simp only; omega) (by (repeat (first | exact km | refine kp rfl ?_ | refine km' rfl ?_))) (by simp (disch := omega)) ⟨rfl, hsp.trans hsw, hPn⟩
      · have hijI : ¬ (i : Int) ≤ j := by omega
        have hji : j < i := by omega
        have hjiI : (j : Int) < i := by omega
        simp (disch := omega)
        refine draw_to tab_ok (by kernel_rfl) (by kernel_rfl) (by rfl) ?_
        simp (disch := omega) [hij, hijI, undef]
        have hf := h L2 i (by omega) (by omega) hsp (fun x h1 h2 => by
          rw [← hPv]
          by_cases e : x = lo
          · subst e; rw [hhd]; exact Nat.le_refl _
          · exact hP.a x (by omega) h2) (fun y h1 h2 => by rw [← hPv]; exact hP.b y (by omega) h2)
        try simp (disch := omega) [hjiI, hji]
        exact ret_of hf
    · rw [decide_eq_false hk]
      simp (disch := omega)
      refine Rnd.mk' (i + 1) (by omega) (by (repeat (first | exact km | refine kp rfl ?_ | refine km' rfl ?_))) (by simp (disch := omega)) ⟨rfl, hP.incI hij (by have hh := hP.head; show K L2 i ≤ P; omega), by omega⟩
  · have hijI : ¬ (i : Int) ≤ j2 := by omega
    simp (disch := omega)
    refine draw_to tab_ok (by kernel_rfl) (by kernel_rfl) (by rfl) ?_
    simp (disch := omega) [hij, hijI, undef]
    refine loop_to tab_ok [10, 46, 47, 48, 49, 50, 51, 52, 53, 54, 55, 56, 57, 58, 59, 60, 61] (fun j : Nat => [(10, .int .i64 (j : Nat))]) (fun j M' => M.put b (.cells true (bytesV L2) c) = M' ∧ PI lo hi i j P (fun v => v ≤ P) (fun v => P < v) L2 ∧ j ≤ j2 ∧ j < i) (fun j => j) j2 (by kernel_rfl) (by simp (disch := omega)) ⟨rfl, hP, Nat.le_refl _, by omega⟩ ?_
    clear hP b1 b2 b3 b4
    rintro j M' g2 ⟨rfl, hP, hj0, hji⟩
    have b1 := hP.i1
    have b2 := hP.ij
    have b3 := hP.jh
    have b4 := hP.jl
    have hij : ¬ i ≤ j := by omega
    have hijI : ¬ (i : Int) ≤ j := by omega
    have hjiI : (j : Int) < i := by omega
    simp (disch := omega)
    refine draw_to tab_ok (by kernel_rfl) (by kernel_rfl) (by rfl) ?_
    simp (disch := omega) [hij, hijI, undef]
    have hf := h L2 i (by omega) (by omega) hsp (fun x h1 h2 => by
      rw [← hPv]
      by_cases e : x = lo
      · subst e; rw [hhd]; exact Nat.le_refl _
      · exact hP.a x (by omega) h2) (fun y h1 h2 => by rw [← hPv]; exact hP.b y (by omega) h2)
    try simp (disch := omega) [hjiI, hji]
    exact ret_of hf
set_option maxHeartbeats 4000000 in
theorem partition_does (b c lo hi pv : Nat) (L : List UInt8) (M : Mem) (R : Value → Mem → Prop) (hM : M b = some (.cells true (bytesV L) c)) (hc : L.length ≤ c) (hl : L.length ≤ 1000000) (hlo : lo < hi) (hhi : hi ≤ L.length) (hp1 : lo ≤ pv) (hp2 : pv < hi)
    (h : ∀ L' m (t : Bool), lo ≤ m → m < hi → SP lo hi L L' → (∀ x, lo ≤ x → x < m → K L' x ≤ K L' m) → (∀ y, m < y → y < hi → K L' m ≤ K L' y) → R (.tuple #[.int .i64 (m : Nat), .bool t]) (M.put b (.cells true (bytesV L') c))) : Does Tryz.prog 157 [.slice (some ⟨b, 0, none⟩) L.length c, .int .i64 lo, .int .i64 hi, .int .i64 pv] M R := by
  refine does_fn tab_ok Tryz.func157 rfl (by kernel_rfl) (by kernel_rfl) Tryz.ntmps157 Tryz.results157 rfl ?_
  have xlo := getK hM (i := lo) (by omega)
  have xpv := getK hM (i := pv) (by omega)
  have hsw0 := SP.swp (L := L) (a := lo) (b := hi) (i := lo) (j := pv) (by omega) (by omega) (by omega) (by omega) (by omega)
  have hkk0 := K_swp (L := L) (i := lo) (j := pv) (by omega) (by omega) lo
  simp (disch := omega)
  refine plays (lights [0, 1, 2, 3, 4, 5, 6, 7, 8, 9, 10, 11, 12] (.one 13 2 (lights [14] (.one 15 2 .fin)))) tab_ok (by kernel_rfl) (by kernel_rfl) (by rfl) ?_
  simp (disch := omega) [xlo, xpv, hM, set_is, setK, lenK]
  simp only [put_put, swp_get]
  obtain ⟨L0, hL0⟩ : ∃ L0, L0 = swp L lo pv := ⟨_, rfl⟩
  rw [← hL0] at hsw0 hkk0 ⊢
  obtain ⟨P, hPP⟩ : ∃ P, P = K L0 lo := ⟨_, rfl⟩
  obtain ⟨jz, hjz⟩ : ∃ jz : Nat, jz = hi - 1 := ⟨_, rfl⟩
  have hjzI : (hi : Int) - 1 = jz := by omega
  have hsp := hsw0
  have hl1 := hsp.len
  have hP0 : PI lo hi (lo + 1) jz P (fun v => v < P) (fun v => P ≤ v) L0 := ⟨hPP.symm, by omega, by omega, by omega, by omega, fun x h1 h2 => by omega, fun y h1 h2 => by omega⟩
  have kM : (M.put b (.cells true (bytesV L0) c)) b = some (.cells true (bytesV L0) c) := put_same _ _ _
  have hlo1 : (lo : Int) + 1 = ((lo + 1 : Nat) : Int) := by omega
  rw [hjzI]
  refine loop_to tab_ok [10, 30, 31, 32, 33, 34, 35, 36, 37, 38, 39, 40, 41, 42, 43, 44, 45] (fun i : Nat => [(10, .int .i64 (i : Nat))]) (fun i M' => M.put b (.cells true (bytesV L0) c) = M' ∧ PI lo hi i jz P (fun v => v < P) (fun v => P ≤ v) L0 ∧ (lo + 1) ≤ i) (fun i => jz + 1 - i) (lo + 1) (by kernel_rfl) (by simp (disch := omega)) ⟨rfl, hP0, Nat.le_refl _⟩ ?_
  rintro i M' g1 ⟨rfl, hP, hi0⟩
  have b1 := hP.i1
  have b2 := hP.ij
  have b3 := hP.jh
  have b4 := hP.jl
  have hhd := hP.head
  have x0 := getK kM (i := lo) (by omega)
  by_cases hij : i ≤ jz
  · have hijI : (i : Int) ≤ jz := by omega
    have xi := getK kM (i := i) (by omega)
    simp (disch := omega)
    refine draw_to tab_ok (by kernel_rfl) (by kernel_rfl) (by rfl) ?_
    simp (disch := omega) [hij, hijI, x0, xi]
    refine vQCall_at (a := []) (c := []) (lessB_does _ _ _ _ ⟨rfl, rfl⟩) ?_
    by_cases hk : K L0 i < K L0 lo
    · rw [decide_eq_true hk]
      simp (disch := omega)
      refine Rnd.mk' (i + 1) (by omega) (by (repeat (first | exact km | refine kp rfl ?_ | refine km' rfl ?_))) (by simp (disch := omega)) ⟨rfl, hP.incI hij (by have hh := hP.head; show K L0 i < P; omega), by omega⟩
    · rw [decide_eq_false hk]
      simp (disch := omega)
      refine loop_to tab_ok [11, 46, 47, 48, 49, 50, 51, 52, 53, 54, 55, 56, 57, 58, 59, 60, 61, 62] (fun j : Nat => [(11, .int .i64 (j : Nat))]) (fun j M' => M.put b (.cells true (bytesV L0) c) = M' ∧ PI lo hi i j P (fun v => v < P) (fun v => P ≤ v) L0 ∧ j ≤ jz) (fun j => j) jz (by kernel_rfl) (by simp (disch := omega)) ⟨rfl, hP, Nat.le_refl _⟩ ?_
      clear hP b1 b2 b3 b4
      rintro j M' g2 ⟨rfl, hP, hj0⟩
      have b1 := hP.i1
      have b2 := hP.ij
      have b3 := hP.jh
      have b4 := hP.jl
      by_cases hij : i ≤ j
      · have hijI : (i : Int) ≤ j := by omega
        have xj := getK kM (i := j) (by omega)
        simp (disch := omega)
        refine draw_to tab_ok (by kernel_rfl) (by kernel_rfl) (by rfl) ?_
        simp (disch := omega) [hij, hijI, x0, xj]
        refine vQCall_at (a := []) (c := []) (lessB_does _ _ _ _ ⟨rfl, rfl⟩) ?_
        by_cases hk2 : K L0 j < K L0 lo
        · rw [decide_eq_true hk2]
          have hlt : i < j := by
            rcases Nat.lt_or_ge i j with hh | hh
            · exact hh
            · have e : i = j := by omega
              subst e
              omega
          obtain ⟨j, rfl⟩ : ∃ j', j = j' + 1 := ⟨j - 1, by omega⟩
          have hPn := hP.swap hlt (by omega) (by show K L0 (j + 1) < P; omega) (by show P ≤ K L0 i; omega)
          have hsw := SP.swp (L := L0) (a := lo) (b := hi) (i := i) (j := j + 1) (by omega) (by omega) (by omega) (by omega) (by omega)
          have hnji : ¬ ((j + 1 : Nat) : Int) < i := by omega
          have hnji2 : ¬ (j : Int) + 1 < i := by omega
          have hnji3 : ¬ j + 1 < i := by omega
          have hj1 : ((j + 1 : Nat) : Int) - 1 = j := by omega
          have hj2 : ((j : Int) + 1) - 1 = j := by omega
          simp (disch := omega) [hnji, hnji2, hnji3]
          refine plays (lights [0, 1, 2, 3, 4, 5, 6, 7, 8, 9, 10, 11, 12] (.one 13 2 (lights [14] (.one 15 2 .fin)))) tab_ok (by kernel_rfl) (by kernel_rfl) (by rfl) ?_
          simp (disch := omega) [xi, xj, kM, set_is, setK, lenK, hj1, hj2]
          simp only [put_put, swp_get]
          refine loop_to tab_ok [10, 11, 99, 100, 101, 102, 103, 104, 105, 106, 107, 108, 109, 110, 111, 112, 113, 114, 115, 116, 117, 118, 119, 120, 121, 122, 123, 124, 125, 126, 127, 128, 129, 130, 131, 132, 133, 134, 135, 136, 137, 138, 139, 140, 141, 142, 143, 144, 145, 146, 147, 148, 149, 150, 151, 152] (fun x : Nat × Nat × List UInt8 => [(10, .int .i64 (x.1 : Nat)), (11, .int .i64 (x.2.1 : Nat))]) (fun x M' => M.put b (.cells true (bytesV x.2.2) c) = M' ∧ SP lo hi L x.2.2 ∧ PI lo hi x.1 x.2.1 P (fun v => v < P) (fun v => P ≤ v) x.2.2) (fun x => x.2.1 + 1 - x.1) (i + 1, j, (swp L0 i (j + 1))) (by kernel_rfl) (by simp (disch := omega)) ⟨rfl, hsp.trans hsw, hPn⟩ ?_
          clear hP0 kM hsp hl1 hsw0 hP hPn hsw xi xj x0 b1 b2 b3 b4 hij hijI hk hk2 hi0 hj0 hlt hnji hnji2 hnji3 hj1 hj2 hhd
          rintro ⟨i2, j2, L2⟩ M' g ⟨rfl, hsp, hP2⟩
          simp only at hsp hP2
          have hl1 := hsp.len
          have kM : (M.put b (.cells true (bytesV L2) c)) b = some (.cells true (bytesV L2) c) := put_same _ _ _
          simp (disch := omega)
          refine loop_to tab_ok [10, 99, 100, 101, 102, 103, 104, 105, 106, 107, 108, 109, 110, 111, 112, 113, 114] (fun i : Nat => [(10, .int .i64 (i : Nat))]) (fun i M' => M.put b (.cells true (bytesV L2) c) = M' ∧ PI lo hi i j2 P (fun v => v < P) (fun v => P ≤ v) L2 ∧ i2 ≤ i) (fun i => j2 + 1 - i) i2 (by kernel_rfl) (by simp (disch := omega)) ⟨rfl, hP2, Nat.le_refl _⟩ ?_
          rintro i M' g1 ⟨rfl, hP, hi0⟩
          have b1 := hP.i1
          have b2 := hP.ij
          have b3 := hP.jh
          have b4 := hP.jl
          have hhd := hP.head
          have x0 := getK kM (i := lo) (by omega)
          by_cases hij : i ≤ j2
          · have hijI : (i : Int) ≤ j2 := by omega
            have xi := getK kM (i := i) (by omega)
            simp (disch := omega)
            refine draw_to tab_ok (by kernel_rfl) (by kernel_rfl) (by rfl) ?_
            simp (disch := omega) [hij, hijI, x0, xi]
            refine vQCall_at (a := []) (c := []) (lessB_does _ _ _ _ ⟨rfl, rfl⟩) ?_
            by_cases hk : K L2 i < K L2 lo
            · rw [decide_eq_true hk]
              simp (disch := omega)
              refine Rnd.mk' (i + 1) (by omega) (by (repeat (first | exact km | refine kp rfl ?_ | refine km' rfl ?_))) (by simp (disch := omega)) ⟨rfl, hP.incI hij (by have hh := hP.head; show K L2 i < P; omega), by omega⟩
            · rw [decide_eq_false hk]
              simp (disch := omega)
              refine loop_to tab_ok [11, 115, 116, 117, 118, 119, 120, 121, 122, 123, 124, 125, 126, 127, 128, 129, 130, 131] (fun j : Nat => [(11, .int .i64 (j : Nat))]) (fun j M' => M.put b (.cells true (bytesV L2) c) = M' ∧ PI lo hi i j P (fun v => v < P) (fun v => P ≤ v) L2 ∧ j ≤ j2) (fun j => j) j2 (by kernel_rfl) (by simp (disch := omega)) ⟨rfl, hP, Nat.le_refl _⟩ ?_
              clear hP b1 b2 b3 b4
              rintro j M' g2 ⟨rfl, hP, hj0⟩
              have b1 := hP.i1
              have b2 := hP.ij
              have b3 := hP.jh
              have b4 := hP.jl
              by_cases hij : i ≤ j
              · have hijI : (i : Int) ≤ j := by omega
                have xj := getK kM (i := j) (by omega)
                simp (disch := omega)
                refine draw_to tab_ok (by kernel_rfl) (by kernel_rfl) (by rfl) ?_
                simp (disch := omega) [hij, hijI, x0, xj]
                refine vQCall_at (a := []) (c := []) (lessB_does _ _ _ _ ⟨rfl, rfl⟩) ?_
                by_cases hk2 : K L2 j < K L2 lo
                · rw [decide_eq_true hk2]
                  have hlt : i < j := by
                    rcases Nat.lt_or_ge i j with hh | hh
                    · exact hh
                    · have e : i = j := by omega
                      subst e
                      omega
                  obtain ⟨j, rfl⟩ : ∃ j', j = j' + 1 := ⟨j - 1, by omega⟩
                  have hPn := hP.swap hlt (by omega) (by show K L2 (j + 1) < P; omega) (by show P ≤ K L2 i; omega)
                  have hsw := SP.swp (L := L2) (a := lo) (b := hi) (i := i) (j := j + 1) (by omega) (by omega) (by omega) (by omega) (by omega)
                  have hnji : ¬ ((j + 1 : Nat) : Int) < i := by omega
                  have hnji2 : ¬ (j : Int) + 1 < i := by omega
                  have hnji3 : ¬ j + 1 < i := by omega
                  have hj1 : ((j + 1 : Nat) : Int) - 1 = j := by omega
                  have hj2 : ((j : Int) + 1) - 1 = j := by omega
                  simp (disch := omega) [hnji, hnji2, hnji3]
                  refine plays (lights [0, 1, 2, 3, 4, 5, 6, 7, 8, 9, 10, 11, 12] (.one 13 2 (lights [14] (.one 15 2 .fin)))) tab_ok (by kernel_rfl) (by kernel_rfl) (by rfl) ?_
                  simp (disch := omega) [xi, xj, kM, set_is, setK, lenK, hj1, hj2]
                  simp only [put_put, swp_get]
                  refine Rnd.mk' (i + 1, j, swp L2 i (j + 1)) (by simp only; omega) (by (repeat (first | exact km | refine kp rfl ?_ | refine km' rfl ?_))) (by simp (disch := omega)) ⟨rfl, hsp.trans hsw, hPn⟩
                · rw [decide_eq_false hk2]
                  obtain ⟨j, rfl⟩ : ∃ j', j = j' + 1 := ⟨j - 1, by omega⟩
                  have hj1 : ((j + 1 : Nat) : Int) - 1 = j := by omega
                  have hj2 : ((j : Int) + 1) - 1 = j := by omega
                  simp (disch := omega) [hj1, hj2]
                  refine Rnd.mk' j (by omega) (by (repeat (first | exact km | refine kp rfl ?_ | refine km' rfl ?_))) (by simp (disch := omega)) ⟨rfl, hP.decJ hij (by show P ≤ K L2 (j + 1); omega), by omega⟩
              · have hijI : ¬ (i : Int) ≤ j := by omega
                have hji : j < i := by omega
                have hjiI : (j : Int) < i := by omega
                simp (disch := omega)
                refine draw_to tab_ok (by kernel_rfl) (by kernel_rfl) (by rfl) ?_
                simp (disch := omega) [hij, hijI, undef]
                have hf := hP.fin hji (by omega)
                have hsw := SP.swp (L := L2) (a := lo) (b := hi) (i := j) (j := lo) (by omega) (by omega) (by omega) (by omega) (by omega)
                have xj := getK kM (i := j) (by omega)
                try simp (disch := omega) [hjiI, hji]
                refine plays (lights [0, 1, 2, 3, 4, 5, 6, 7, 8, 9, 10, 11, 12] (.one 13 2 (lights [14] (.one 15 2 .fin)))) tab_ok (by kernel_rfl) (by kernel_rfl) (by rfl) ?_
                simp (disch := omega) [x0, xj, kM, set_is, setK, lenK]
                simp only [put_put, swp_get]
                exact ret_of (h (swp L2 j lo) j false (by omega) (by omega) (hsp.trans hsw) hf.1 hf.2)
          · have hijI : ¬ (i : Int) ≤ j2 := by omega
            simp (disch := omega)
            refine draw_to tab_ok (by kernel_rfl) (by kernel_rfl) (by rfl) ?_
            simp (disch := omega) [hij, hijI, undef]
            refine loop_to tab_ok [11, 115, 116, 117, 118, 119, 120, 121, 122, 123, 124, 125, 126, 127, 128, 129, 130, 131] (fun j : Nat => [(11, .int .i64 (j : Nat))]) (fun j M' => M.put b (.cells true (bytesV L2) c) = M' ∧ PI lo hi i j P (fun v => v < P) (fun v => P ≤ v) L2 ∧ j ≤ j2 ∧ j < i) (fun j => j) j2 (by kernel_rfl) (by simp (disch := omega)) ⟨rfl, hP, Nat.le_refl _, by omega⟩ ?_
            clear hP b1 b2 b3 b4
            rintro j M' g2 ⟨rfl, hP, hj0, hji⟩
            have b1 := hP.i1
            have b2 := hP.ij
            have b3 := hP.jh
            have b4 := hP.jl
            have hij : ¬ i ≤ j := by omega
            have hijI : ¬ (i : Int) ≤ j := by omega
            have hjiI : (j : Int) < i := by omega
            simp (disch := omega)
            refine draw_to tab_ok (by kernel_rfl) (by kernel_rfl) (by rfl) ?_
            simp (disch := omega) [hij, hijI, undef]
            have hf := hP.fin hji (by omega)
            have hsw := SP.swp (L := L2) (a := lo) (b := hi) (i := j) (j := lo) (by omega) (by omega) (by omega) (by omega) (by omega)
            have xj := getK kM (i := j) (by omega)
            try simp (disch := omega) [hjiI, hji]
            refine plays (lights [0, 1, 2, 3, 4, 5, 6, 7, 8, 9, 10, 11, 12] (.one 13 2 (lights [14] (.one 15 2 .fin)))) tab_ok (by kernel_rfl) (by kernel_rfl) (by rfl) ?_
            simp (disch := omega) [x0, xj, kM, set_is, setK, lenK]
            simp only [put_put, swp_get]
            exact ret_of (h (swp L2 j lo) j false (by omega) (by omega) (hsp.trans hsw) hf.1 hf.2)
        · rw [decide_eq_false hk2]
          obtain ⟨j, rfl⟩ : ∃ j', j = j' + 1 := ⟨j - 1, by omega⟩
          have hj1 : ((j + 1 : Nat) : Int) - 1 = j := by omega
          have hj2 : ((j : Int) + 1) - 1 = j := by omega
          simp (disch := omega) [hj1, hj2]
          refine Rnd.mk' j (by omega) (by (repeat (first | exact km | refine kp rfl ?_ | refine km' rfl ?_))) (by simp (disch := omega)) ⟨rfl, hP.decJ hij (by show P ≤ K L0 (j + 1); omega), by omega⟩
      · have hijI : ¬ (i : Int) ≤ j := by omega
        have hji : j < i := by omega
        have hjiI : (j : Int) < i := by omega
        simp (disch := omega)
        refine draw_to tab_ok (by kernel_rfl) (by kernel_rfl) (by rfl) ?_
        simp (disch := omega) [hij, hijI, undef]
        have hf := hP.fin hji (by omega)
        have hsw := SP.swp (L := L0) (a := lo) (b := hi) (i := j) (j := lo) (by omega) (by omega) (by omega) (by omega) (by omega)
        have xj := getK kM (i := j) (by omega)
        try simp (disch := omega) [hjiI, hji]
        refine plays (lights [0, 1, 2, 3, 4, 5, 6, 7, 8, 9, 10, 11, 12] (.one 13 2 (lights [14] (.one 15 2 .fin)))) tab_ok (by kernel_rfl) (by kernel_rfl) (by rfl) ?_
        simp (disch := omega) [x0, xj, kM, set_is, setK, lenK]
        simp only [put_put, swp_get]
        exact ret_of (h (swp L0 j lo) j true (by omega) (by omega) (hsp.trans hsw) hf.1 hf.2)
  · have hijI : ¬ (i : Int) ≤ jz := by omega
    simp (disch := omega)
    refine draw_to tab_ok (by kernel_rfl) (by kernel_rfl) (by rfl) ?_
    simp (disch := omega) [hij, hijI, undef]
    refine loop_to tab_ok [11, 46, 47, 48, 49, 50, 51, 52, 53, 54, 55, 56, 57, 58, 59, 60, 61, 62] (fun j : Nat => [(11, .int .i64 (j : Nat))]) (fun j M' => M.put b (.cells true (bytesV L0) c) = M' ∧ PI lo hi i j P (fun v => v < P) (fun v => P ≤ v) L0 ∧ j ≤ jz ∧ j < i) (fun j => j) jz (by kernel_rfl) (by simp (disch := omega)) ⟨rfl, hP, Nat.le_refl _, by omega⟩ ?_
    clear hP b1 b2 b3 b4
    rintro j M' g2 ⟨rfl, hP, hj0, hji⟩
    have b1 := hP.i1
    have b2 := hP.ij
    have b3 := hP.jh
    have b4 := hP.jl
    have hij : ¬ i ≤ j := by omega
    have hijI : ¬ (i : Int) ≤ j := by omega
    have hjiI : (j : Int) < i := by omega
    simp (disch := omega)
    refine draw_to tab_ok (by kernel_rfl) (by kernel_rfl) (by rfl) ?_
    simp (disch := omega) [hij, hijI, undef]
    have hf := hP.fin hji (by omega)
    have hsw := SP.swp (L := L0) (a := lo) (b := hi) (i := j) (j := lo) (by omega) (by omega) (by omega) (by omega) (by omega)
    have xj := getK kM (i := j) (by omega)
    try simp (disch := omega) [hjiI, hji]
    refine plays (lights [0, 1, 2, 3, 4, 5, 6, 7, 8, 9, 10, 11, 12] (.one 13 2 (lights [14] (.one 15 2 .fin)))) tab_ok (by kernel_rfl) (by kernel_rfl) (by rfl) ?_
    simp (disch := omega) [x0, xj, kM, set_is, setK, lenK]
    simp only [put_put, swp_get]
    exact ret_of (h (swp L0 j lo) j true (by omega) (by omega) (hsp.trans hsw) hf.1 hf.2)
end Go.Proofs.YthpcojnpiggaiaaGreat
/-! Contract: bytes sorted by a few exchanges. -/
namespace Go.Proofs.YthpcojnpiggaiaaGreat
open Go
set_option linter.unusedSimpArgs false
set_option linter.unusedVariables false

set_option maxRecDepth 8000 in
set_option maxHeartbeats 4000000 in
theorem partialIns_does (b c lo hi : Nat) (L : List UInt8) (M : Mem) (R : Value → Mem → Prop) (hM : M b = some (.cells true (bytesV L) c)) (hc : L.length ≤ c) (hl : L.length ≤ 1000000) (hlo : lo < hi) (hhi : hi ≤ L.length) (hpre : 1 ≤ lo → ∀ y, lo ≤ y → y < hi → K L (lo - 1) ≤ K L y)
    (h : ∀ L' (t : Bool), SP lo hi L L' → (t = true → SS lo hi L') → R (.bool t) (M.put b (.cells true (bytesV L') c))) : Does Tryz.prog 154 [.slice (some ⟨b, 0, none⟩) L.length c, .int .i64 lo, .int .i64 hi] M R := by
  refine does_fn tab_ok Tryz.func154 rfl (by kernel_rfl) (by kernel_rfl) Tryz.ntmps154 Tryz.results154 rfl ?_
  have hlo1 : (lo : Int) + 1 = ((lo + 1 : Nat) : Int) := by omega
  simp (disch := omega)
  refine loop_to tab_ok [6, 7, 8, 9, 10, 13, 14, 15, 16, 17, 18, 19, 20, 21, 22, 23, 24, 25, 26, 27, 28, 29, 30, 31, 32, 33, 34, 35, 36, 37, 38, 39, 40, 41, 42, 43, 44, 45, 46, 47, 48, 49, 50, 51, 52, 53, 54, 55, 56, 57, 58, 59, 60, 61, 62, 63, 64, 65, 66, 67, 68, 69, 70, 71, 72, 73, 74, 75, 76, 77, 78, 79, 80, 81, 82, 83, 84, 85, 86, 87, 88, 89, 90, 91, 92, 93, 94, 95, 96, 97, 98, 99, 100, 101, 102, 103, 104, 105, 106, 107, 108, 109, 110, 111, 112, 113, 114, 115, 116, 117, 118, 119, 120, 121, 122, 123, 124, 125, 126, 127, 128, 129, 130, 131, 132] (fun x : Nat × Nat × List UInt8 => [(7, .int .i64 (x.1 : Nat)), (8, .int .i64 (x.2.1 : Nat))]) (fun x M' => M.put b (.cells true (bytesV x.2.2) c) = M' ∧ SP lo hi L x.2.2 ∧ SS lo x.1 x.2.2 ∧ lo + 1 ≤ x.1 ∧ x.1 ≤ hi ∧ x.2.1 ≤ 5) (fun x => 5 - x.2.1) (lo + 1, 0, L) (by kernel_rfl) (by simp (disch := omega)) ⟨put_self hM, SP.refl _ _ _, SS.one _ (Nat.le_refl _), Nat.le_refl _, by simp only; omega, by simp only; omega⟩ ?_
  rintro ⟨i0, jj, L1⟩ M' g ⟨rfl, hsp, hss0, hi1, hi2, hj5⟩
  simp only at hsp hss0 hi1 hi2 hj5
  have hl1 := hsp.len
  have kM : (M.put b (.cells true (bytesV L1) c)) b = some (.cells true (bytesV L1) c) := put_same _ _ _
  by_cases hj : jj < 5
  · have hjI : (jj : Int) < 5 := by omega
    simp (disch := omega) [hj, hjI]
    refine loop_to tab_ok [7, 17, 18, 19, 20, 21, 22, 23, 24, 25, 26, 27, 28, 29, 30, 31, 32, 33, 34] (fun i : Nat => [(7, .int .i64 (i : Nat))]) (fun i M' => M.put b (.cells true (bytesV L1) c) = M' ∧ SS lo i L1 ∧ lo + 1 ≤ i ∧ i ≤ hi) (fun i => hi - i) i0 (by kernel_rfl) (by simp (disch := omega)) ⟨rfl, hss0, hi1, hi2⟩ ?_
    clear hss0 hi1 hi2
    rintro i M' g1 ⟨rfl, hss, hi1, hi2⟩
    obtain ⟨i, rfl⟩ : ∃ i', i = i' + 1 := ⟨i - 1, by omega⟩
    by_cases hih : i + 1 < hi
    · have xi1 := getK kM (i := i + 1) (by omega)
      have xi := getK kM (i := i) (by omega)
      have hihI : (i : Int) + 1 < hi := by omega
      simp (disch := omega)
      refine draw_to tab_ok (by kernel_rfl) (by kernel_rfl) (by rfl) ?_
      simp (disch := omega) [hih, hihI, xi1, xi]
      refine vQCall_at (a := []) (c := []) (lessB_does _ _ _ _ ⟨rfl, rfl⟩) ?_
      by_cases hk : K L1 (i + 1) < K L1 i
      · rw [decide_eq_true hk]
        have hne : ¬ (i : Int) + 1 = hi := by omega
        have hneN : ¬ i + 1 = hi := by omega
        have hneb : ((i : Int) + 1 == hi) = false := beq_eq_false_iff_ne.2 hne
        by_cases h50 : hi - lo < 50
        · have h50I : (hi : Int) - lo < 50 := by omega
          simp (disch := omega) [hne, hneN, hneb, h50I]
          exact ret_of (h L1 false hsp (fun e => by cases e))
        · have h50I : ¬ (hi : Int) - lo < 50 := by omega
          have hsw := SP.swp (L := L1) (a := lo) (b := hi) (i := i + 1) (j := i) (by omega) (by omega) (by omega) (by omega) (by omega)
          have hkk := K_swp (L := L1) (i := i + 1) (j := i) (by omega) (by omega)
          simp (disch := omega) [hne, hneN, hneb, h50I]
          refine plays (lights [0, 1, 2, 3, 4, 5, 6, 7, 8, 9, 10, 11, 12, 13, 14] (.one 15 2 (lights [16] (.one 17 2 .fin)))) tab_ok (by kernel_rfl) (by kernel_rfl) (by rfl) ?_
          simp (disch := omega) [xi1, xi, kM, set_is, setK, lenK]
          simp only [put_put, swp_get]
          have hssi : SS lo i (swp L1 (i + 1) i) := fun x y h1 h2 h3 => by
            rw [hkk, hkk, if_neg (by omega), if_neg (by omega), if_neg (by omega), if_neg (by omega)]
            exact hss x y h1 h2 (by omega)
          by_cases h2l : 2 ≤ i + 1 - lo
          · have h2lI : (2 : Int) ≤ (i : Int) + 1 - lo := by omega
            simp (disch := omega) [h2lI]
            refine loop_to tab_ok [9, 64, 65, 66, 67, 68, 69, 70, 71, 72, 73, 74, 75, 76, 77, 78, 79, 80, 81, 82, 83, 84, 85, 86, 87, 88, 89, 90, 91, 92, 93, 94] (fun x : Nat × List UInt8 => [(9, .int .i64 (x.1 : Nat))]) (fun x M' => M.put b (.cells true (bytesV x.2) c) = M' ∧ lo ≤ x.1 ∧ x.1 ≤ i ∧ SP lo hi L x.2 ∧ Ins lo i x.1 x.2) (fun x => x.1) (i, swp L1 (i + 1) i) (by kernel_rfl) (by simp (disch := omega); try omega) ⟨rfl, by simp only; omega, Nat.le_refl _, hsp.trans hsw, Ins.start hssi⟩ ?_
            rintro ⟨p, L3⟩ M' g3 ⟨rfl, hp1, hp2, hsp3, hin⟩
            simp only at hp1 hp2 hsp3 hin
            have hl3 := hsp3.len
            have kM3 : (M.put b (.cells true (bytesV L3) c)) b = some (.cells true (bytesV L3) c) := put_same _ _ _
            by_cases hp0 : 1 ≤ p
            · have hp0I : (1 : Int) ≤ p := by omega
              obtain ⟨p, rfl⟩ : ∃ p', p = p' + 1 := ⟨p - 1, by omega⟩
              have xp1 := getK kM3 (i := p + 1) (by omega)
              have xp := getK kM3 (i := p) (by omega)
              simp (disch := omega) [hp0, hp0I]
              refine draw_to tab_ok (by kernel_rfl) (by kernel_rfl) (by rfl) ?_
              simp (disch := omega) [xp1, xp]
              refine vQCall_at (a := []) (c := []) (lessB_does _ _ _ _ ⟨rfl, rfl⟩) ?_
              by_cases hk3 : K L3 (p + 1) < K L3 p
              · have hlop : lo < p + 1 := by
                  rcases Nat.lt_or_ge lo (p + 1) with hh | hh
                  · exact hh
                  · exfalso
                    have e : lo = p + 1 := by omega
                    have h1 := hsp3.out p (by omega)
                    have h2 := hsp3.inn (fun v => K L p ≤ v) (fun y a1 a2 => by
                      have := hpre (by omega) y a1 a2
                      rw [show lo - 1 = p by omega] at this
                      exact this) (p + 1) (by omega) (by omega)
                    omega
                have hst := hin.step hlop hp2 (by omega) (by simpa using hk3)
                have hsw3 := SP.swp (L := L3) (a := lo) (b := hi) (i := p + 1) (j := p) (by omega) (by omega) (by omega) (by omega) (by omega)
                rw [decide_eq_true hk3]
                simp (disch := omega)
                refine plays (lights [0, 1, 2, 3, 4, 5, 6, 7, 8, 9, 10, 11, 12, 13, 14] (.one 15 2 (lights [16] (.one 17 2 .fin)))) tab_ok (by kernel_rfl) (by kernel_rfl) (by rfl) ?_
                simp (disch := omega) [xp1, xp, kM3, set_is, setK, lenK]
                refine Rnd.mk' (p, swp L3 (p + 1) p) (by simp only; omega) (by (repeat (first | exact km | refine kp rfl ?_ | refine km' rfl ?_))) (by simp (disch := omega)) ⟨by simp only [put_put, swp_get], by simp only; omega, by simp only; omega, hsp3.trans hsw3, hst⟩
              · rw [decide_eq_false hk3]
                have hss3 := hin.done hp1 (.inr (by simpa using Nat.le_of_not_lt hk3))
                simp (disch := omega)
                have hl3 := hsp3.len
                by_cases h2r : 2 ≤ hi - (i + 1)
                · skip
                  have h2rI : (2 : Int) ≤ (hi : Int) - ((i : Int) + 1) := by omega
                  simp (disch := omega) [h2rI]
                  refine loop_to tab_ok [10, 101, 102, 103, 104, 105, 106, 107, 108, 109, 110, 111, 112, 113, 114, 115, 116, 117, 118, 119, 120, 121, 122, 123, 124, 125, 126, 127, 128, 129, 130, 131, 132] (fun x : Nat × List UInt8 => [(10, .int .i64 (x.1 : Nat))]) (fun x M' => M.put b (.cells true (bytesV x.2) c) = M' ∧ i + 2 ≤ x.1 ∧ SP lo hi L x.2 ∧ SS lo (i + 1) x.2) (fun x => hi - x.1) (i + 2, L3) (by kernel_rfl) (by simp (disch := omega); try omega) ⟨rfl, Nat.le_refl _, hsp3, hss3⟩ ?_
                  rintro ⟨q, L4⟩ M' g4 ⟨rfl, hq, hsp4, hss4⟩
                  simp only at hq hsp4 hss4
                  have hl4 := hsp4.len
                  have kM4 : (M.put b (.cells true (bytesV L4) c)) b = some (.cells true (bytesV L4) c) := put_same _ _ _
                  by_cases hqh : q < hi
                  · obtain ⟨q, rfl⟩ : ∃ q', q = q' + 1 := ⟨q - 1, by omega⟩
                    have xq1 := getK kM4 (i := q + 1) (by omega)
                    have xq := getK kM4 (i := q) (by omega)
                    simp (disch := omega) [hqh]
                    refine draw_to tab_ok (by kernel_rfl) (by kernel_rfl) (by rfl) ?_
                    simp (disch := omega) [xq1, xq]
                    refine vQCall_at (a := []) (c := []) (lessB_does _ _ _ _ ⟨rfl, rfl⟩) ?_
                    by_cases hk4 : K L4 (q + 1) < K L4 q
                    · have hsw := SP.swp (L := L4) (a := lo) (b := hi) (i := q + 1) (j := q) (by omega) (by omega) (by omega) (by omega) (by omega)
                      have hss5 : SS lo (i + 1) (swp L4 (q + 1) q) := hss4.same fun x h1 h2 => by rw [K_swp (by omega) (by omega), if_neg (by omega), if_neg (by omega)]
                      rw [decide_eq_true hk4]
                      simp (disch := omega)
                      refine plays (lights [0, 1, 2, 3, 4, 5, 6, 7, 8, 9, 10, 11, 12, 13, 14] (.one 15 2 (lights [16] (.one 17 2 .fin)))) tab_ok (by kernel_rfl) (by kernel_rfl) (by rfl) ?_
                      simp (disch := omega) [xq1, xq, kM4, set_is, setK, lenK]
                      refine Rnd.mk' (q + 2, swp L4 (q + 1) q) (by simp only; omega) (by (repeat (first | exact km | refine kp rfl ?_ | refine km' rfl ?_))) (by simp (disch := omega); try omega) ⟨by simp only [put_put, swp_get], by simp only; omega, hsp4.trans hsw, hss5⟩
                    · rw [decide_eq_false hk4]
                      simp (disch := omega)
                      refine Rnd.mk' (i + 1, jj + 1, L4) (by simp only; omega) (by (repeat (first | exact km | refine kp rfl ?_ | refine km' rfl ?_))) (by simp (disch := omega)) ⟨rfl, hsp4, hss4, by simp only; omega, by simp only; omega, by simp only; omega⟩
                  · simp (disch := omega) [hqh]
                    refine Rnd.mk' (i + 1, jj + 1, L4) (by simp only; omega) (by (repeat (first | exact km | refine kp rfl ?_ | refine km' rfl ?_))) (by simp (disch := omega)) ⟨rfl, hsp4, hss4, by simp only; omega, by simp only; omega, by simp only; omega⟩
                · have h2rI : ¬ (2 : Int) ≤ (hi : Int) - ((i : Int) + 1) := by omega
                  obtain ⟨L4, hL4⟩ : ∃ L4, L4 = L3 := ⟨_, rfl⟩
                  subst hL4
                  have hsp4 := hsp3
                  have hss4 := hss3
                  simp (disch := omega) [h2rI]
                  refine Rnd.mk' (i + 1, jj + 1, L4) (by simp only; omega) (by (repeat (first | exact km | refine kp rfl ?_ | refine km' rfl ?_))) (by simp (disch := omega)) ⟨rfl, hsp4, hss4, by simp only; omega, by simp only; omega, by simp only; omega⟩
            · have hp0I : ¬ (1 : Int) ≤ p := by omega
              have hss3 := hin.done hp1 (.inl (by omega))
              simp (disch := omega) [hp0, hp0I]
              have hl3 := hsp3.len
              by_cases h2r : 2 ≤ hi - (i + 1)
              · skip
                have h2rI : (2 : Int) ≤ (hi : Int) - ((i : Int) + 1) := by omega
                simp (disch := omega) [h2rI]
                refine loop_to tab_ok [10, 101, 102, 103, 104, 105, 106, 107, 108, 109, 110, 111, 112, 113, 114, 115, 116, 117, 118, 119, 120, 121, 122, 123, 124, 125, 126, 127, 128, 129, 130, 131, 132] (fun x : Nat × List UInt8 => [(10, .int .i64 (x.1 : Nat))]) (fun x M' => M.put b (.cells true (bytesV x.2) c) = M' ∧ i + 2 ≤ x.1 ∧ SP lo hi L x.2 ∧ SS lo (i + 1) x.2) (fun x => hi - x.1) (i + 2, L3) (by kernel_rfl) (by simp (disch := omega); try omega) ⟨rfl, Nat.le_refl _, hsp3, hss3⟩ ?_
                rintro ⟨q, L4⟩ M' g4 ⟨rfl, hq, hsp4, hss4⟩
                simp only at hq hsp4 hss4
                have hl4 := hsp4.len
                have kM4 : (M.put b (.cells true (bytesV L4) c)) b = some (.cells true (bytesV L4) c) := put_same _ _ _
                by_cases hqh : q < hi
                · obtain ⟨q, rfl⟩ : ∃ q', q = q' + 1 := ⟨q - 1, by omega⟩
                  have xq1 := getK kM4 (i := q + 1) (by omega)
                  have xq := getK kM4 (i := q) (by omega)
                  simp (disch := omega) [hqh]
                  refine draw_to tab_ok (by kernel_rfl) (by kernel_rfl) (by rfl) ?_
                  simp (disch := omega) [xq1, xq]
                  refine vQCall_at (a := []) (c := []) (lessB_does _ _ _ _ ⟨rfl, rfl⟩) ?_
                  by_cases hk4 : K L4 (q + 1) < K L4 q
                  · have hsw := SP.swp (L := L4) (a := lo) (b := hi) (i := q + 1) (j := q) (by omega) (by omega) (by omega) (by omega) (by omega)
                    have hss5 : SS lo (i + 1) (swp L4 (q + 1) q) := hss4.same fun x h1 h2 => by rw [K_swp (by omega) (by omega), if_neg (by omega), if_neg (by omega)]
                    rw [decide_eq_true hk4]
                    simp (disch := omega)
                    refine plays (lights [0, 1, 2, 3, 4, 5, 6, 7, 8, 9, 10, 11, 12, 13, 14] (.one 15 2 (lights [16] (.one 17 2 .fin)))) tab_ok (by kernel_rfl) (by kernel_rfl) (by rfl) ?_
                    simp (disch := omega) [xq1, xq, kM4, set_is, setK, lenK]
                    refine Rnd.mk' (q + 2, swp L4 (q + 1) q) (by simp only; omega) (by (repeat (first | exact km | refine kp rfl ?_ | refine km' rfl ?_))) (by simp (disch := omega); try omega) ⟨by simp only [put_put, swp_get], by simp only; omega, hsp4.trans hsw, hss5⟩
                  · rw [decide_eq_false hk4]
                    simp (disch := omega)
                    refine Rnd.mk' (i + 1, jj + 1, L4) (by simp only; omega) (by (repeat (first | exact km | refine kp rfl ?_ | refine km' rfl ?_))) (by simp (disch := omega)) ⟨rfl, hsp4, hss4, by simp only; omega, by simp only; omega, by simp only; omega⟩
                · simp (disch := omega) [hqh]
                  refine Rnd.mk' (i + 1, jj + 1, L4) (by simp only; omega) (by (repeat (first | exact km | refine kp rfl ?_ | refine km' rfl ?_))) (by simp (disch := omega)) ⟨rfl, hsp4, hss4, by simp only; omega, by simp only; omega, by simp only; omega⟩
              · have h2rI : ¬ (2 : Int) ≤ (hi : Int) - ((i : Int) + 1) := by omega
                obtain ⟨L4, hL4⟩ : ∃ L4, L4 = L3 := ⟨_, rfl⟩
                subst hL4
                have hsp4 := hsp3
                have hss4 := hss3
                simp (disch := omega) [h2rI]
                refine Rnd.mk' (i + 1, jj + 1, L4) (by simp only; omega) (by (repeat (first | exact km | refine kp rfl ?_ | refine km' rfl ?_))) (by simp (disch := omega)) ⟨rfl, hsp4, hss4, by simp only; omega, by simp only; omega, by simp only; omega⟩
          · have h2lI : ¬ (2 : Int) ≤ (i : Int) + 1 - lo := by omega
            obtain ⟨L3, hL3⟩ : ∃ L3, L3 = swp L1 (i + 1) i := ⟨_, rfl⟩
            rw [← hL3] at hsw ⊢
            have hsp3 := hsp.trans hsw
            have hss3 : SS lo (i + 1) L3 := SS.one _ (by omega)
            simp (disch := omega) [h2lI]
            have hl3 := hsp3.len
            have h2r : 2 ≤ hi - (i + 1) := by omega
            have h2rI : (2 : Int) ≤ (hi : Int) - ((i : Int) + 1) := by omega
            simp (disch := omega) [h2rI]
            refine loop_to tab_ok [10, 101, 102, 103, 104, 105, 106, 107, 108, 109, 110, 111, 112, 113, 114, 115, 116, 117, 118, 119, 120, 121, 122, 123, 124, 125, 126, 127, 128, 129, 130, 131, 132] (fun x : Nat × List UInt8 => [(10, .int .i64 (x.1 : Nat))]) (fun x M' => M.put b (.cells true (bytesV x.2) c) = M' ∧ i + 2 ≤ x.1 ∧ SP lo hi L x.2 ∧ SS lo (i + 1) x.2) (fun x => hi - x.1) (i + 2, L3) (by kernel_rfl) (by simp (disch := omega); try omega) ⟨rfl, Nat.le_refl _, hsp3, hss3⟩ ?_
            rintro ⟨q, L4⟩ M' g4 ⟨rfl, hq, hsp4, hss4⟩
            simp only at hq hsp4 hss4
            have hl4 := hsp4.len
            have kM4 : (M.put b (.cells true (bytesV L4) c)) b = some (.cells true (bytesV L4) c) := put_same _ _ _
            by_cases hqh : q < hi
            · obtain ⟨q, rfl⟩ : ∃ q', q = q' + 1 := ⟨q - 1, by omega⟩
              have xq1 := getK kM4 (i := q + 1) (by omega)
              have xq := getK kM4 (i := q) (by omega)
              simp (disch := omega) [hqh]
              refine draw_to tab_ok (by kernel_rfl) (by kernel_rfl) (by rfl) ?_
              simp (disch := omega) [xq1, xq]
              refine vQCall_at (a := []) (c := []) (lessB_does _ _ _ _ ⟨rfl, rfl⟩) ?_
              by_cases hk4 : K L4 (q + 1) < K L4 q
              · have hsw := SP.swp (L := L4) (a := lo) (b := hi) (i := q + 1) (j := q) (by omega) (by omega) (by omega) (by omega) (by omega)
                have hss5 : SS lo (i + 1) (swp L4 (q + 1) q) := hss4.same fun x h1 h2 => by rw [K_swp (by omega) (by omega), if_neg (by omega), if_neg (by omega)]
                rw [decide_eq_true hk4]
                simp (disch := omega)
                refine plays (lights [0, 1, 2, 3, 4, 5, 6, 7, 8, 9, 10, 11, 12, 13, 14] (.one 15 2 (lights [16] (.one 17 2 .fin)))) tab_ok (by kernel_rfl) (by kernel_rfl) (by rfl) ?_
                simp (disch := omega) [xq1, xq, kM4, set_is, setK, lenK]
                refine Rnd.mk' (q + 2, swp L4 (q + 1) q) (by simp only; omega) (by (repeat (first | exact km | refine kp rfl ?_ | refine km' rfl ?_))) (by simp (disch := omega); try omega) ⟨by simp only [put_put, swp_get], by simp only; omega, hsp4.trans hsw, hss5⟩
              · rw [decide_eq_false hk4]
                simp (disch := omega)
                refine Rnd.mk' (i + 1, jj + 1, L4) (by simp only; omega) (by (repeat (first | exact km | refine kp rfl ?_ | refine km' rfl ?_))) (by simp (disch := omega)) ⟨rfl, hsp4, hss4, by simp only; omega, by simp only; omega, by simp only; omega⟩
            · simp (disch := omega) [hqh]
              refine Rnd.mk' (i + 1, jj + 1, L4) (by simp only; omega) (by (repeat (first | exact km | refine kp rfl ?_ | refine km' rfl ?_))) (by simp (disch := omega)) ⟨rfl, hsp4, hss4, by simp only; omega, by simp only; omega, by simp only; omega⟩
      · rw [decide_eq_false hk]
        simp (disch := omega)
        refine Rnd.mk' (i + 2) (by omega) (by (repeat (first | exact km | refine kp rfl ?_ | refine km' rfl ?_))) (by simp (disch := omega); try omega) ⟨rfl, SS.steps fun x h1 h2 => ?_, by omega, by omega⟩
        by_cases e : x = i
        · subst e; exact Nat.le_of_not_lt hk
        · exact hss x (x + 1) h1 (by omega) (by omega)
    · have hihE : i + 1 = hi := by omega
      have hihI : ¬ (i : Int) + 1 < hi := by omega
      have heq : (i : Int) + 1 = hi := by omega
      simp (disch := omega)
      refine draw_to tab_ok (by kernel_rfl) (by kernel_rfl) (by rfl) ?_
      simp (disch := omega) [hih, hihI, undef]
      rw [hihE] at hss
      try simp (disch := omega) [heq, hihE]
      exact ret_of (h L1 true hsp (fun _ => hss))
  · have hjI : ¬ (jj : Int) < 5 := by omega
    simp (disch := omega) [hj, hjI]
    exact ret_of (h L1 false hsp (fun e => by cases e))
end Go.Proofs.YthpcojnpiggaiaaGreat

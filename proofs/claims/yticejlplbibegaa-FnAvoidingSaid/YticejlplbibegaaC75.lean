/- Contracts: unavoidable patterns, of the program; the law. -/
import Derived.Test.YticejlplbibegaaC77
import Derived.Test.YticejlplbibegaaC79
import Derived.Test.YticejlplbibegaaC73
import Derived.Test.YticejlplbibegaaE11
namespace Go.Proofs.Yticejlplbibegaa
open Go
set_option linter.unusedSimpArgs false
set_option linter.unusedVariables false

theorem wrap_u64 {x : Int} (h1 : 0 ≤ x) (h2 : x ≤ 9223372036854775807) : IntKind.u64.wrap x = x := by
  unfold IntKind.wrap
  simp [IntKind.bits, IntKind.signed]
  omega
theorem mem_upTo8 (d : Array UInt8) : ∀ m, ∀ x, x ∈ Lib.compactUpTo d m ↔ ∃ j, j < m ∧ d[j]! = x
  | 0, x => by simp [Lib.compactUpTo]
  | m + 1, x => by
    rw [Lib.compactUpTo_succ, List.mem_append, mem_upTo8 d m x]
    constructor
    · rintro (⟨j, h1, h2⟩ | h)
      · exact ⟨j, by omega, h2⟩
      · split at h
        · exact ⟨m, by omega, (List.mem_singleton.1 h).symm⟩
        · simp at h
    · rintro ⟨j, h1, h2⟩
      by_cases hj : j < m
      · exact .inl ⟨j, hj, h2⟩
      · have hj' : j = m := by omega
        subst hj'
        cases hk : Lib.keeps d j with
        | true => exact .inr (by rw [if_pos rfl]; simp [h2])
        | false =>
          simp only [Lib.keeps, decide_eq_false_iff_not, not_or, ne_eq, Decidable.not_not] at hk
          exact .inl ⟨j - 1, by omega, by rw [← hk.2]; exact h2⟩
theorem mem_compact8 (zs : List UInt8) (x : UInt8) : x ∈ Lib.compact zs ↔ x ∈ zs := by
  unfold Lib.compact
  rw [mem_upTo8]
  constructor
  · rintro ⟨j, h1, h2⟩
    rw [arrB_get (by simpa using h1)] at h2
    rw [← h2]
    exact List.getElem_mem _
  · intro h
    obtain ⟨j, h1, h2⟩ := List.mem_iff_getElem.1 h
    exact ⟨j, h1, by rw [arrB_get (by simpa using h1)]; exact h2⟩
/-- What is kept of bytes in order is in strict order. -/
theorem upTo_strict8 {zs : List UInt8} (hs : zs.Pairwise (fun x y => x.toNat ≤ y.toNat)) : ∀ m, m ≤ zs.length → (Lib.compactUpTo zs.toArray m).Pairwise (fun x y => x.toNat < y.toNat)
  | 0, _ => by simp [Lib.compactUpTo]
  | m + 1, hm => by
    rw [Lib.compactUpTo_succ, List.pairwise_append]
    refine ⟨upTo_strict8 hs m (by omega), by split <;> simp, ?_⟩
    intro x hx y hy
    cases hk : Lib.keeps zs.toArray m with
    | false => rw [hk] at hy; simp at hy
    | true =>
      rw [hk, if_pos rfl, List.mem_singleton] at hy
      subst hy
      obtain ⟨j, hj, rfl⟩ := (mem_upTo8 _ _ _).1 hx
      rw [arrB_get (show j < zs.length by omega), arrB_get (show m < zs.length by omega)]
      have hle : ∀ i k, (hk : k < zs.length) → (hi : i ≤ k) → (zs[i]'(by omega)).toNat ≤ zs[k].toNat := fun i k hk hi => by
        rcases Nat.lt_or_eq_of_le hi with h | h
        · exact List.pairwise_iff_getElem.1 hs i k (by omega) hk h
        · subst h; exact Nat.le_refl _
      have h1 := hle j (m - 1) (by omega) (by omega)
      have h2 := hle (m - 1) m (by omega) (by omega)
      simp only [Lib.keeps, decide_eq_true_eq] at hk
      rcases hk with h0 | hne
      · omega
      · rw [arrB_get (show m < zs.length by omega), arrB_get (show m - 1 < zs.length by omega)] at hne
        have : zs[m].toNat ≠ (zs[m - 1]'(by omega)).toNat := fun e => hne (UInt8.toNat_inj.1 e)
        omega
theorem strict_same8 : ∀ {a b : List UInt8}, a.Pairwise (fun x y => x.toNat < y.toNat) → b.Pairwise (fun x y => x.toNat < y.toNat) → (∀ x, x ∈ a ↔ x ∈ b) → a = b
  | [], [], _, _, _ => rfl
  | [], y :: b, _, _, h => absurd ((h y).2 List.mem_cons_self) (by simp)
  | x :: a, [], _, _, h => absurd ((h x).1 List.mem_cons_self) (by simp)
  | x :: a, y :: b, ha, hb, h => by
    rw [List.pairwise_cons] at ha hb
    have hxy : x = y := by
      have h1 := (h x).1 List.mem_cons_self
      have h2 := (h y).2 List.mem_cons_self
      rcases List.mem_cons.1 h1 with e | e
      · exact e
      · rcases List.mem_cons.1 h2 with e2 | e2
        · exact e2.symm
        · have := hb.1 x e
          have := ha.1 y e2
          omega
    subst hxy
    congr 1
    refine strict_same8 ha.2 hb.2 fun z => ?_
    constructor
    · intro hz
      rcases List.mem_cons.1 ((h z).1 (List.mem_cons_of_mem _ hz)) with e | e
      · have := ha.1 z hz; rw [e] at this; omega
      · exact e
    · intro hz
      rcases List.mem_cons.1 ((h z).2 (List.mem_cons_of_mem _ hz)) with e | e
      · have := hb.1 z hz; rw [e] at this; omega
      · exact e
theorem oc_iff {p : List UInt8} (hp : ∀ c ∈ p, isV c = true) (k : Nat) : oc p k = true ↔ UInt8.ofNat (65 + k) ∈ p ∧ k < 3 := by
  unfold oc
  rw [List.any_eq_true]
  constructor
  · rintro ⟨c, hc, h⟩
    rw [beq_iff_eq] at h
    have := isV_range (hp c hc)
    have h2 := c.toNat_lt
    unfold vIdx at h
    refine ⟨?_, by omega⟩
    have : UInt8.ofNat (65 + k) = c := UInt8.toNat_inj.1 (by rw [UInt8.toNat_ofNat']; omega)
    rw [this]; exact hc
  · rintro ⟨h, hk⟩
    refine ⟨_, h, ?_⟩
    rw [beq_iff_eq]
    unfold vIdx
    rw [UInt8.toNat_ofNat']; omega
/-- The number of different letters of a pattern. -/
theorem distinct_is {p L : List UInt8} (hp : ∀ c ∈ p, isV c = true) (hs : L.Pairwise (fun x y => x.toNat ≤ y.toNat)) (hL : L.Perm p) : (Lib.compact L).length = dstN p := by
  have h1 : (Lib.compact L).Pairwise (fun x y => x.toNat < y.toNat) := upTo_strict8 hs _ (Nat.le_refl _)
  have h2 : ([65, 66, 67] : List UInt8).Pairwise (fun x y => x.toNat < y.toNat) := by decide
  have h3 := h2.filter fun c => p.contains c
  have he : Lib.compact L = ([65, 66, 67] : List UInt8).filter fun c => p.contains c := by
    refine strict_same8 h1 h3 fun x => ?_
    rw [mem_compact8, hL.mem_iff, List.mem_filter, List.contains_iff_mem]
    refine ⟨fun hx => ⟨?_, hx⟩, fun hx => hx.2⟩
    have := isV_range (hp x hx)
    have hh : x.toNat = 65 ∨ x.toNat = 66 ∨ x.toNat = 67 := by omega
    rcases hh with e | e | e
    · rw [show x = 65 from UInt8.toNat_inj.1 e]; decide
    · rw [show x = 66 from UInt8.toNat_inj.1 e]; decide
    · rw [show x = 67 from UInt8.toNat_inj.1 e]; decide
  rw [he]
  have o0 := oc_iff hp 0
  have o1 := oc_iff hp 1
  have o2 := oc_iff hp 2
  have e0 : oc p 0 = p.contains 65 := by rw [Bool.eq_iff_iff, o0, List.contains_iff_mem]; exact ⟨fun h => h.1, fun h => ⟨h, by omega⟩⟩
  have e1 : oc p 1 = p.contains 66 := by rw [Bool.eq_iff_iff, o1, List.contains_iff_mem]; exact ⟨fun h => h.1, fun h => ⟨h, by omega⟩⟩
  have e2 : oc p 2 = p.contains 67 := by rw [Bool.eq_iff_iff, o2, List.contains_iff_mem]; exact ⟨fun h => h.1, fun h => ⟨h, by omega⟩⟩
  unfold dstN
  rw [e0, e1, e2]
  simp only [List.filter_cons, List.filter_nil]
  generalize p.contains 65 = x
  generalize p.contains 66 = y
  generalize p.contains 67 = z
  cases x <;> cases y <;> cases z <;> rfl
theorem bitsLen_does (x : Nat) (M : Mem) (R : Value → Mem → Prop) (hx : x ≤ 1000000) (h : R (.int .i64 (Lib.bitLen x : Nat)) M) : Does Try.prog 68 [.int .u64 x] M R := by
  refine does_below (.int .i64 (Lib.bitLen x : Nat)) ⟨_, Try.func68, by kernel_rfl, by kernel_rfl⟩ (fun w hw => ?_) h
  refine (Try.bits_Len x w (by omega) (by omega)).mono fun e w' ⟨h1, h2⟩ => ⟨h1, by rw [h2]; exact Go.RowKit.Below.refl _ _⟩
theorem sort12_does (b c : Nat) (L : List UInt8) (M : Mem) (R : Value → Mem → Prop) (hM : M b = some (.cells true (bytesV L) c)) (hc : L.length ≤ c) (hl : L.length ≤ 12)
    (h : ∀ L', L'.Perm L → L'.Pairwise (fun x y => x.toNat ≤ y.toNat) → R (.tuple #[]) (M.put b (.cells true (bytesV L') c))) : Does Try.prog 56 [.slice (some ⟨b, 0, none⟩) L.length c] M R := by
  refine does_fn tab_ok Try.func56 rfl (by kernel_rfl) (by kernel_rfl) Try.ntmps56 Try.results56 rfl ?_
  have hu : IntKind.u64.wrap (L.length : Int) = (L.length : Nat) := wrap_u64 (by omega) (by omega)
  simp (disch := omega) [hu]
  refine bitsLen_does L.length _ _ (by omega) ?_
  simp (disch := omega)
  refine does_fn tab_ok Try.func67 rfl (by kernel_rfl) (by kernel_rfl) Try.ntmps67 Try.results67 rfl ?_
  simp (disch := omega)
  refine loop_to tab_ok [1, 2, 3, 8, 9, 10, 11, 12, 13, 14, 15, 16, 17, 18, 19, 20, 21, 22, 23, 24, 25, 26, 27, 28, 29, 30, 31, 32, 33, 34, 35, 36, 37, 38, 39, 40, 41, 42, 43, 44, 45, 46, 47, 48, 49, 50, 51, 52, 53, 54, 55, 56, 57, 58, 59, 60, 61, 62, 63, 64, 65, 66, 67, 68, 69, 70, 71, 72, 73, 74, 75, 76, 77, 78, 79, 80, 81, 82, 83, 84, 85, 86, 87, 88, 89, 90, 91, 92, 93, 94, 95, 96, 97, 98, 99, 100, 101, 102, 103, 104, 105, 106, 107, 108, 109, 110, 111, 112, 113, 114, 115, 116, 117, 118, 119, 120, 121, 122, 123, 124, 125, 126, 127, 128, 129, 130, 131, 132, 133] (fun x : Unit => [(1, .int .i64 0), (2, .int .i64 (L.length : Nat))]) (fun x M' => M = M') (fun x => 0) () (by kernel_rfl) (by simp (disch := omega)) rfl ?_
  rintro ⟨⟩ M' g rfl
  simp (disch := omega)
  refine insertB_does b c 0 L.length L _ _ hM hc (by omega) (Nat.zero_le _) (Nat.le_refl _) ?_
  intro L' hsp hss
  simp (disch := omega)
  refine ret_of ?_
  simp (disch := omega)
  refine ret_of (h L' hsp.perm ?_)
  rw [← hsp.len] at hss
  exact hss.pairwise
theorem impl_IsUnavoidable (p : List UInt8) (M : Mem) (R : Value → Mem → Prop) (hl : p.length ≤ 1099511627776) (h : ∀ M', Sub M M' → R (tup2 (.bool (unavB p)) (unavC p)) M') : Does Try.prog 6 [str p] M R := by
  unfold tup2 unavB unavC at h
  refine does_fn tab_ok Try.func6 rfl (by kernel_rfl) (by kernel_rfl) Try.ntmps6 Try.results6 rfl ?_
  simp (disch := omega)
  refine avoidCode_does p true _ _ hl ?_
  cases hp : isPat p
  · rw [hp] at h
    simp (disch := omega)
    exact ret_of (h _ (Sub.refl _))
  · rw [hp, if_pos rfl, Bool.true_and] at h
    obtain ⟨hp1, hp8, hpv⟩ := isPat_in hp
    have hne : p ≠ [] := by rintro rfl; simp at hp1
    have hr := dst_range hne (pat_lt hp)
    have hz := zimF_len (dstN p) (by omega)
    simp (disch := omega)
    intro b c hb hc
    have s1 : Sub M (M.put b (.cells true (bytesV p) c)) := (Sub.refl _).put hb _
    simp (disch := omega)
    refine valuesB_does _ _ _ _ _ ?_
    intro Bv hBv
    have s2 := s1.putN hBv (.cells true [.slice (some ⟨b, 0, none⟩) p.length c] 1)
    have rp : Rd ((M.put b (.cells true (bytesV p) c)).put Bv (.cells true [.slice (some ⟨b, 0, none⟩) p.length c] 1)) (.slice (some ⟨b, 0, none⟩) p.length c) (bytesV p) := (Rd.new (bytesV_length p) (by simp (disch := omega) at hc; omega)).sub ((Sub.refl _).put hBv _)
    have kv : ((M.put b (.cells true (bytesV p) c)).put Bv (.cells true [.slice (some ⟨b, 0, none⟩) p.length c] 1)) Bv = some (.cells true [.slice (some ⟨b, 0, none⟩) p.length c] 1) := put_same _ _ _
    generalize (M.put b (.cells true (bytesV p) c)).put Bv (.cells true [.slice (some ⟨b, 0, none⟩) p.length c] 1) = M2 at *
    simp (disch := omega)
    refine does_fn tab_ok Try.func29 rfl (by kernel_rfl) (by kernel_rfl) Try.ntmps29 Try.results29 rfl ?_
    simp (disch := omega)
    refine collect_does Bv b 0 c true 1 p _ _ hp1 (by omega) kv rp ?_
    intro g c2 hg hc2
    simp (disch := omega)
    refine sort12_does g c2 p _ _ (put_same _ _ _) hc2 (by omega) ?_
    intro L hL hs
    have hLl := hL.length_eq
    have hdi := distinct_is (fun c hc => List.all_eq_true.1 hpv c hc) hs hL
    rw [put_put]
    simp (disch := omega)
    refine ret_of ?_
    rw [← hLl]
    simp (disch := omega)
    refine compactB_does _ L M2 _ _ (.inr ⟨g, c2, by rw [bytesV_length], hg, by rw [bytesV_length]; omega, rfl⟩) (by omega) ?_
    intro v' M3 o3
    obtain ⟨a, c3, rfl, _⟩ := o3.rd.opened
    rw [bytesV_length, hdi]
    simp (disch := omega)
    refine zimin_does (dstN p) _ _ (by omega) ?_
    simp (disch := omega)
    refine has_does_ (zimF (dstN p)) p _ _ (by omega) hp ?_
    simp (disch := omega)
    exact ret_of (h _ (s2.trans o3.sub))
theorem law_IsUnavoidable (p : List UInt8) (M : Mem) (R : Value → Mem → Prop) (hl : p.length ≤ 140737488351232) (h : ∀ M', Sub M M' → R (.bool true) M') : Does Try.prog 3 [str p] M R := by
  refine does_fn tab_ok Try.func3 rfl (by kernel_rfl) (by kernel_rfl) Try.ntmps3 Try.results3 rfl ?_
  by_cases hz : (1048576 : Int) < p.length
  · simp (disch := omega) [hz]
    exact ret_of (h _ (Sub.refl _))
  · simp (disch := omega) [hz]
    refine spec_IsUnavoidable p _ _ (by omega) ?_
    intro M1 s1
    simp (disch := omega) [tup2]
    refine impl_IsUnavoidable p _ _ (by omega) ?_
    intro M2 s2
    simp (disch := omega) [tup2]
    exact ret_of (h _ (s1.trans s2))
end Go.Proofs.Yticejlplbibegaa

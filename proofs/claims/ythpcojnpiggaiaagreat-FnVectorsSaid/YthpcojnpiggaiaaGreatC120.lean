/- Law: sorted words are alike; words are counted by their vectors; abelian powers have equal vectors. -/
import Derived.Test.YthpcojnpiggaiaaGreatC119
import Derived.Test.YthpcojnpiggaiaaGreatCQ
import Derived.Test.YthpcojnpiggaiaaGreatC80
import Derived.Test.YthpcojnpiggaiaaGreatC58
import Derived.Test.YthpcojnpiggaiaaGreatC114
import Derived.Test.YthpcojnpiggaiaaGreatC115
import Derived.Test.YthpcojnpiggaiaaGreatC116
import Derived.Test.YthpcojnpiggaiaaGreatC117
namespace Go.Proofs.YthpcojnpiggaiaaGreat
open Go
set_option linter.unusedSimpArgs false
set_option linter.unusedVariables false

theorem ncounts_arr {zs : List Int} (h5 : zs.length = 5) {x : List UInt8} (hx : ∀ c, c < 5 → x.countP (fun u => u.toNat == 97 + c) = (nsOf zs).getD c 0) : ncounts x = nsOf zs := by
  obtain ⟨x0, x1, x2, x3, x4, he⟩ := five (show (nsOf zs).length = 5 by rw [nsOf_len]; exact h5)
  rw [he] at hx ⊢
  have e : ncounts x = [x.countP (fun u => u.toNat == 97 + 0), x.countP (fun u => u.toNat == 97 + 1), x.countP (fun u => u.toNat == 97 + 2), x.countP (fun u => u.toNat == 97 + 3), x.countP (fun u => u.toNat == 97 + 4)] := rfl
  rw [e, hx 0 (by omega), hx 1 (by omega), hx 2 (by omega), hx 3 (by omega), hx 4 (by omega)]
  rfl
/-- The first word with a vector. -/
theorem ww_first {zs : List Int} (h : wwC zs = 0) : ∃ x l, wwL zs = x :: l ∧ isWord x = true ∧ alikeN x = ((wwL zs).length : Int) ∧ alikeNC x = 0 ∧ srtL x = x ∧ (wwL zs).length ≤ 300 := by
  have hL : wwL zs = arrF (nsOf zs).sum (nsOf zs) := by unfold wwL; rw [if_pos h]
  unfold wwC at h
  have hok : wwOk zs = true := by
    cases hq : wwOk zs
    · rw [hq, if_neg (by decide)] at h; omega
    · rfl
  rw [hok, if_pos rfl] at h
  have h8 : ¬ 8 < (nsOf zs).sum := fun q => by rw [if_pos q] at h; omega
  rw [if_neg h8] at h
  have h3 : ¬ 300 < (arrA (nsOf zs)).1 := fun q => by rw [if_pos q] at h; omega
  have h5 : zs.length = 5 := by
    unfold wwOk at hok
    rw [Bool.and_eq_true, decide_eq_true_eq] at hok
    exact hok.1
  have h5n : (nsOf zs).length = 5 := by rw [nsOf_len]; exact h5
  obtain ⟨x, l, hx, hp⟩ := arrF_head _ (nsOf zs) h5n rfl
  obtain ⟨m1, m2, m3⟩ := arrF_mem _ (nsOf zs) h5n rfl x (by rw [hx]; exact List.mem_cons_self)
  have hlen := arrF_len _ (nsOf zs) h5n rfl (by omega)
  have hw : isWord x = true := by unfold isWord; rw [m2, decide_eq_true (by omega)]; rfl
  refine ⟨x, l, by rw [hL, hx], hw, ?_, ?_, srtL_self hp, by rw [hL]; omega⟩
  · unfold alikeN
    rw [hw, if_pos rfl, if_pos (by omega), ncounts_arr h5 m3, hL, hlen]
  · unfold alikeNC
    rw [hw, if_pos rfl, if_pos (by omega)]
theorem pow_row {w : List UInt8} {k : Int} {r : List Int} (h : r ∈ powR w k) : ∃ i m : Nat, r = [(i : Int), (m : Int)] ∧ isWord w = true ∧ i + m + m ≤ w.length ∧ counts (seg w (i + m) m) = counts (seg w i m) := by
  unfold powR at h
  cases hw : isWord w
  · rw [hw, if_neg (by decide)] at h; cases h
  · rw [hw, if_pos rfl] at h
    by_cases hk : 2 ≤ k ∧ k ≤ 60
    · rw [if_pos hk] at h
      obtain ⟨k, rfl⟩ : ∃ j : Nat, k = j := ⟨k.toNat, by omega⟩
      rw [Int.toNat_natCast] at h
      obtain ⟨i, hi, hr⟩ := List.mem_flatMap.1 h
      have hi := List.mem_range.1 hi
      obtain ⟨m, hm, rfl⟩ := List.mem_map.1 hr
      rw [List.mem_filter, List.mem_range] at hm
      obtain ⟨hm1, hm2⟩ := hm
      have hkm : k * (m + 1) ≤ w.length - i := by
        have h1 : k * (m + 1) ≤ k * ((w.length - i) / k) := Nat.mul_le_mul_left _ (by omega)
        exact Nat.le_trans h1 (Nat.mul_div_le _ _)
      have h2m : 2 * (m + 1) ≤ k * (m + 1) := Nat.mul_le_mul_right _ (by omega)
      refine ⟨i, m + 1, rfl, rfl, by omega, ?_⟩
      unfold abel alikeTo at hm2
      have := List.all_eq_true.1 hm2 1 (List.mem_range.2 (by omega))
      rw [Nat.one_mul, seg_seg (by omega), seg_seg (by omega), Nat.add_zero, beq_iff_eq] at this
      exact this
    · rw [if_neg hk] at h; cases h
theorem fac_in {w : List UInt8} {i m : Nat} (hw : isWord w = true) (h : i + m ≤ w.length) : facT w i m = seg w i m ∧ facC w i m = 0 := by
  have hok : facOk w i m = true := by
    unfold facOk
    rw [decide_eq_true (by omega), decide_eq_true (by omega)]; rfl
  unfold facT facC
  rw [hw, hok]
  exact ⟨rfl, rfl⟩
theorem alike_seg {w : List UInt8} {i m : Nat} (hw : isWord w = true) (h : i + m + m ≤ w.length) (hc : counts (seg w (i + m) m) = counts (seg w i m)) : alikeB (seg w i m) (seg w (i + m) m) = true ∧ alikeC (seg w i m) (seg w (i + m) m) = 0 := by
  have h60 := isWord_len hw
  have hs : ∀ a, a + m ≤ w.length → isWord (seg w a m) = true := fun a ha => by
    unfold isWord
    rw [seg_len ha, decide_eq_true (by omega), seg_all (isWord_all hw)]; rfl
  unfold alikeB alikeC
  rw [hs i (by omega), hs (i + m) (by omega), hc]
  exact ⟨by simp, rfl⟩
set_option maxRecDepth 4000 in
set_option maxHeartbeats 4000000 in
theorem law_FnVectors (v : Value) (xs : List UInt8) (M : Mem) (R : Value → Mem → Prop) (hv : Rd M v (bytesV xs)) (hl : xs.length ≤ 9223372036854775807) (h : ∀ M', Sub M M' → R (.bool true) M') : Does Tryz.prog 3 [v] M R := by
  refine does_fn tab_ok Tryz.func3 rfl (by kernel_rfl) (by kernel_rfl) Tryz.ntmps3 Tryz.results3 rfl ?_
  simp (disch := omega)
  refine big_does v xs _ _ hv hl ?_
  by_cases hb : 4096 < xs.length
  · rw [decide_eq_true hb]
    simp (disch := omega)
    exact ret_of (h _ (Sub.refl _))
  rw [decide_eq_false hb]
  simp (disch := omega)
  refine drawAA_does v xs _ _ hv (by omega) ?_
  intro w u M1 sF hw hu
  simp (disch := omega)
  refine impl_AreAlike w u _ _ (by omega) (by omega) ?_
  simp (disch := omega) [tup2]
  refine spec_AreAlike w u _ _ (by omega) (by omega) ?_
  cases hb2 : isWord w && isWord u
  · have e1 : alikeC w u = 1 := by unfold alikeC; rw [hb2]; rfl
    rw [e1]
    generalize alikeB w u = ab at *
    simp (disch := omega) [tup2]
    refine drawWW_does v xs _ _ (hv.sub sF) (by omega) ?_
    intro vz zs M2 t2 rz hzl hzb
    have sF := sF.trans t2
    simp (disch := omega)
    refine impl_WordsWith vz zs _ _ rz (by omega) ?_
    intro v1 M3 o1
    have sF := sF.trans o1.sub
    have rz := rz.sub o1.sub
    have r1 := o1.rd
    clear o1
    simp (disch := omega)
    refine spec_WordsWith vz zs _ _ rz (by omega) ?_
    intro v2 M4 o2
    have sF := sF.trans o2.sub
    have r1 := r1.sub o2.sub
    have r2 := o2.rd
    clear o2 rz
    by_cases hc0 : wwC zs = 0
    · obtain ⟨y, l, hL, hyw, hal, halc, hsy, hll⟩ := ww_first hc0
      have y60 := isWord_len hyw
      generalize wwL zs = L at *
      obtain ⟨a1, c1, rfl, ha1⟩ := r1.opened
      rw [strs_length] at ha1 r1 ⊢
      rcases ha1 with h0 | ⟨b1, o1, rfl, ha1⟩
      · rw [hL] at h0; simp at h0
      have hL1 : 1 ≤ L.length := by rw [hL]; simp
      have hg1 := ha1 0 (by omega)
      have e0 : (strs L)[0]? = some (str y) := by rw [hL]; rfl
      rw [e0, Nat.add_zero] at hg1
      have hwc : wcode y = 0 := by unfold wcode; rw [hyw]; rfl
      simp (disch := omega) [hc0, tup2]
      refine words5_does _ v2 L L _ _ r1 r2 (by omega) (by omega) ?_
      rw [beq_self_eq_true]
      simp (disch := omega) [hg1]
      refine impl_CountAlike y _ _ (by omega) ?_
      rw [hal, halc]
      simp (disch := omega) [tup2, hg1]
      refine impl_SortedWord y _ _ (by omega) ?_
      rw [hyw, if_pos rfl, hsy, hwc]
      intro M5 t5
      have sF := sF.trans t5
      have hg1 := sub_getk hg1 t5
      simp (disch := omega) [tup2, hg1]
      refine drawAPw_does v xs _ _ (hv.sub sF) (by omega) ?_
      intro x k N1 t1 hx hk1 hk2
      have sF := sF.trans t1
      simp (disch := omega)
      refine impl_AbelianPowers x k _ _ (by omega) ?_
      intro v3 rs3 N2 N3 ro3 o3
      have t3 := ro3.sub.trans o3.sub
      have r3 := rdSS_of ro3 o3
      have sF := sF.trans t3
      simp (disch := omega)
      refine spec_AbelianPowers x k _ _ (by omega) ?_
      intro v4 rs4 N4 N5 ro4 o4
      have t4 := ro4.sub.trans o4.sub
      have r4 := rdSS_of ro4 o4
      have r3 := r3.sub t4
      have sF := sF.trans t4
      clear ro3 ro4 o3 o4
      simp (disch := omega)
      refine impl_IsAbelianFree x k _ _ (by omega) ?_
      simp (disch := omega) [tup2]
      refine spec_IsAbelianFree x k _ _ (by omega) ?_
      have hprow : ∀ r ∈ powR x k, ∃ i m : Nat, r = [(i : Int), (m : Int)] ∧ isWord x = true ∧ i + m + m ≤ x.length ∧ counts (seg x (i + m) m) = counts (seg x i m) := fun r hr => pow_row hr
      have pl := powR_len x k
      have prw := powR_row (w := x) (k := k)
      have pe : (powR x k).isEmpty = ((powR x k).length == 0) := by cases powR x k <;> rfl
      generalize powR x k = P at *
      generalize hC : powC x k = C at *
      obtain ⟨rs, rd3, n3, row3⟩ := r3
      have r3 : RdSS N5 v3 P := ⟨rs, rd3, n3, row3⟩
      obtain ⟨a3, c3, rfl, ha3⟩ := rd3.opened
      rw [n3] at ha3 rd3 ⊢
      rw [n3] at r3
      simp (disch := omega) [tup2]
      refine rows5_does _ v4 P P _ _ r3 r4 (by omega) (by omega) (fun r hr => by rw [prw r hr]; omega) (fun r hr => by rw [prw r hr]; omega) ?_
      rw [beq_self_eq_true]
      by_cases hC0 : C = 0
      · rw [decide_eq_true hC0, Bool.true_and, pe]
        have hC0b : (C == 0) = true := by rw [hC0]; rfl
        have hpi : ((P.length : Int) == 0) = (P.length == 0) := by
          rw [Bool.eq_iff_iff, beq_iff_eq, beq_iff_eq]; omega
        generalize hE : (P.length == 0) = E at *
        simp (disch := omega) [hC0b, hpi]
        refine loop_to tab_ok [2, 34, 35, 36, 37, 38, 39, 40, 237, 238, 239, 240, 241, 242, 243, 244, 245, 246, 247, 248, 249, 250, 251, 252, 253, 254, 255, 256, 257, 258, 259, 260, 261, 262, 263, 264, 265, 266, 267, 268, 269, 270, 271, 272, 273, 274, 275, 276, 277, 278, 279, 280, 281, 282, 283, 284, 285, 286, 287, 288, 289, 290, 291, 292, 293, 294, 295, 296, 297, 298, 299, 300, 301, 302, 303, 304, 305, 306, 307, 308, 309, 310, 311, 312, 313] (fun i : Nat => [(34, .int .i64 i)]) (fun i N => Sub N5 N ∧ i ≤ P.length) (fun i => P.length - i) 0 (by kernel_rfl) (by simp (disch := omega)) ⟨Sub.refl _, Nat.zero_le _⟩ ?_
        rintro i N6 g ⟨sN, hi⟩
        by_cases hgo : i < P.length ∧ i < 12
        · obtain ⟨hlt, hl12⟩ := hgo
          have hltI : (i : Int) < (P.length : Nat) := by omega
          have hl12I : (i : Int) < 12 := by omega
          rcases ha3 with h0 | ⟨b3, o3, rfl, ha3⟩
          · omega
          obtain ⟨x3, hx3, rx3⟩ := row3 i _ (List.getElem?_eq_getElem hlt)
          have hg3 := ha3 i hlt
          rw [hx3] at hg3
          have hg3 := sub_getk hg3 sN
          obtain ⟨p, m, hpm, hxw, hpl, hcs⟩ := hprow _ (List.getElem_mem hlt)
          rw [hpm] at rx3
          have x60 := isWord_len hxw
          obtain ⟨fa, fb⟩ := fac_in (w := x) (i := p) (m := m) hxw (by omega)
          obtain ⟨fc, fd⟩ := fac_in (w := x) (i := p + m) (m := m) hxw (by omega)
          obtain ⟨al1, al2⟩ := alike_seg hxw hpl hcs
          have sl1 := seg_len (w := x) (a := p) (m := m) (by omega)
          have sl2 := seg_len (w := x) (a := p + m) (m := m) (by omega)
          obtain ⟨s, hs⟩ : ∃ s, s = p + m := ⟨_, rfl⟩
          rw [← hs] at fc fd al1 al2 sl2
          have epm : (p : Int) + (m : Int) = (s : Int) := by omega
          obtain ⟨ax, cx, rfl, hax⟩ := rx3.opened
          rw [ints_length] at hax hg3
          have hl2 : [(p : Int), (m : Int)].length = 2 := rfl
          rw [hl2] at hax hg3
          rcases hax with h0 | ⟨bx, ox, rfl, hax⟩
          · omega
          have hx0 := hax 0 (by omega)
          have hx1 := hax 1 (by omega)
          have e0 : (ints [(p : Int), (m : Int)])[0]? = some (.int .i64 p) := rfl
          have e1 : (ints [(p : Int), (m : Int)])[1]? = some (.int .i64 m) := rfl
          rw [e0, Nat.add_zero] at hx0
          rw [e1] at hx1
          have hx0 := sub_getk hx0 sN
          have hx1 := sub_getk hx1 sN
          simp (disch := omega) [hltI, hl12I, hg3]
          refine plays (lights [0, 1, 2, 3, 4, 5, 6, 7, 8, 9, 10, 11, 12] (.one 13 1 (lights [14, 15, 16, 17, 18] .fin))) tab_ok (by kernel_rfl) (by kernel_rfl) (by rfl) ?_
          simp (disch := omega) [hg3, hx0, hx1]
          refine impl_FactorAt x p m _ _ (by omega) (by omega) (by omega) ?_
          rw [fa, fb]
          intro N7 t7
          have hg3 := sub_getk hg3 t7
          have hx0 := sub_getk hx0 t7
          have hx1 := sub_getk hx1 t7
          simp (disch := omega) [tup2]
          refine ⟨t7, ?_⟩
          refine plays (lights [0, 1, 2, 3, 4, 5, 6, 7, 8, 9, 10, 11, 12, 13, 14, 15, 16, 17, 18, 19] (.one 20 1 (lights [21, 22, 23, 24, 25] .fin))) tab_ok (by kernel_rfl) (by kernel_rfl) (by rfl) ?_
          simp (disch := omega) [hg3, hx0, hx1, epm]
          refine impl_FactorAt x s m _ _ (by omega) (by omega) (by omega) ?_
          rw [fc, fd]
          intro N8 t8
          simp (disch := omega) [tup2]
          refine ⟨t8, ?_⟩
          refine impl_AreAlike _ _ _ _ (by omega) (by omega) ?_
          rw [al1, al2]
          simp (disch := omega) [tup2]
          exact Rnd.mk' (i + 1) (by omega) (by (repeat (first | exact km | refine kp rfl ?_ | refine km' rfl ?_))) (by simp (disch := omega)) ⟨(sN.trans t7).trans t8, by omega⟩
        · have hgoI : ¬ ((i : Int) < (P.length : Nat) ∧ (i : Int) < 12) := by omega
          have sF := sF.trans sN
          by_cases hlt : i < P.length
          · have hltI : (i : Int) < (P.length : Nat) := by omega
            have hl12I : ¬ (i : Int) < 12 := by omega
            simp (disch := omega) [hltI, hl12I]
            refine drawASq7_does v xs _ _ (hv.sub sF) (by omega) ?_
            intro y N1 t1 hy
            have sF := sF.trans t1
            simp (disch := omega)
            refine impl_AbelianSquares y _ _ (by omega) ?_
            intro v5 rs5 N5 N6 ro5 o5
            have t5 := ro5.sub.trans o5.sub
            have r5 := rdSS_of ro5 o5
            have sF := sF.trans t5
            simp (disch := omega)
            refine spec_AbelianSquares y _ _ (by omega) ?_
            intro v6 rs6 N7 N8 ro6 o6
            have t6 := ro6.sub.trans o6.sub
            have r6 := rdSS_of ro6 o6
            have r5 := r5.sub t6
            have sF := sF.trans t6
            simp (disch := omega)
            refine drawCAl_does v xs _ _ (hv.sub sF) (by omega) ?_
            intro z N9 t9 hz
            have sF := sF.trans t9
            have r5 := r5.sub t9
            have r6 := r6.sub t9
            clear ro5 ro6 o5 o6
            simp (disch := omega)
            refine impl_CountAlike z _ _ (by omega) ?_
            simp (disch := omega) [tup2]
            refine spec_CountAlike z _ _ (by omega) ?_
            simp (disch := omega) [tup2]
            refine drawSo_does v xs _ _ (hv.sub sF) (by omega) ?_
            intro q N10 t10 hq
            have sF := sF.trans t10
            have r5 := r5.sub t10
            have r6 := r6.sub t10
            simp (disch := omega)
            refine impl_SortedWord q _ _ (by omega) ?_
            intro N11 t11
            have sF := sF.trans t11
            have r5 := r5.sub t11
            have r6 := r6.sub t11
            simp (disch := omega) [tup2]
            refine spec_SortedWord q _ _ (by omega) ?_
            intro N12 t12
            have sF := sF.trans t12
            have r5 := r5.sub t12
            have r6 := r6.sub t12
            have pl := powR_len y 2
            have prw := powR_row (w := y) (k := 2)
            generalize powR y 2 = P5 at *
            generalize powC y 2 = C5 at *
            generalize alikeN z = c7 at *
            generalize alikeNC z = c8 at *
            generalize (if isWord q then srtL q else []) = c9 at *
            generalize wcode q = c10 at *
            simp (disch := omega) [tup2]
            refine rows5_does v5 v6 P5 P5 _ _ r5 r6 (by omega) (by omega) (fun r hr => by rw [prw r hr]; omega) (fun r hr => by rw [prw r hr]; omega) ?_
            rw [beq_self_eq_true]
            simp (disch := omega)
            exact ret_of (h _ sF)
          · have hltI : ¬ (i : Int) < (P.length : Nat) := by omega
            simp (disch := omega) [hltI]
            refine drawASq7_does v xs _ _ (hv.sub sF) (by omega) ?_
            intro y N1 t1 hy
            have sF := sF.trans t1
            simp (disch := omega)
            refine impl_AbelianSquares y _ _ (by omega) ?_
            intro v5 rs5 N5 N6 ro5 o5
            have t5 := ro5.sub.trans o5.sub
            have r5 := rdSS_of ro5 o5
            have sF := sF.trans t5
            simp (disch := omega)
            refine spec_AbelianSquares y _ _ (by omega) ?_
            intro v6 rs6 N7 N8 ro6 o6
            have t6 := ro6.sub.trans o6.sub
            have r6 := rdSS_of ro6 o6
            have r5 := r5.sub t6
            have sF := sF.trans t6
            simp (disch := omega)
            refine drawCAl_does v xs _ _ (hv.sub sF) (by omega) ?_
            intro z N9 t9 hz
            have sF := sF.trans t9
            have r5 := r5.sub t9
            have r6 := r6.sub t9
            clear ro5 ro6 o5 o6
            simp (disch := omega)
            refine impl_CountAlike z _ _ (by omega) ?_
            simp (disch := omega) [tup2]
            refine spec_CountAlike z _ _ (by omega) ?_
            simp (disch := omega) [tup2]
            refine drawSo_does v xs _ _ (hv.sub sF) (by omega) ?_
            intro q N10 t10 hq
            have sF := sF.trans t10
            have r5 := r5.sub t10
            have r6 := r6.sub t10
            simp (disch := omega)
            refine impl_SortedWord q _ _ (by omega) ?_
            intro N11 t11
            have sF := sF.trans t11
            have r5 := r5.sub t11
            have r6 := r6.sub t11
            simp (disch := omega) [tup2]
            refine spec_SortedWord q _ _ (by omega) ?_
            intro N12 t12
            have sF := sF.trans t12
            have r5 := r5.sub t12
            have r6 := r6.sub t12
            have pl := powR_len y 2
            have prw := powR_row (w := y) (k := 2)
            generalize powR y 2 = P5 at *
            generalize powC y 2 = C5 at *
            generalize alikeN z = c7 at *
            generalize alikeNC z = c8 at *
            generalize (if isWord q then srtL q else []) = c9 at *
            generalize wcode q = c10 at *
            simp (disch := omega) [tup2]
            refine rows5_does v5 v6 P5 P5 _ _ r5 r6 (by omega) (by omega) (fun r hr => by rw [prw r hr]; omega) (fun r hr => by rw [prw r hr]; omega) ?_
            rw [beq_self_eq_true]
            simp (disch := omega)
            exact ret_of (h _ sF)
      · rw [decide_eq_false hC0, Bool.false_and]
        have hC0b : (C == 0) = false := beq_eq_false_iff_ne.2 hC0
        simp (disch := omega) [hC0b]
        refine loop_to tab_ok [2, 34, 35, 36, 37, 38, 39, 40, 237, 238, 239, 240, 241, 242, 243, 244, 245, 246, 247, 248, 249, 250, 251, 252, 253, 254, 255, 256, 257, 258, 259, 260, 261, 262, 263, 264, 265, 266, 267, 268, 269, 270, 271, 272, 273, 274, 275, 276, 277, 278, 279, 280, 281, 282, 283, 284, 285, 286, 287, 288, 289, 290, 291, 292, 293, 294, 295, 296, 297, 298, 299, 300, 301, 302, 303, 304, 305, 306, 307, 308, 309, 310, 311, 312, 313] (fun i : Nat => [(34, .int .i64 i)]) (fun i N => Sub N5 N ∧ i ≤ P.length) (fun i => P.length - i) 0 (by kernel_rfl) (by simp (disch := omega)) ⟨Sub.refl _, Nat.zero_le _⟩ ?_
        rintro i N6 g ⟨sN, hi⟩
        by_cases hgo : i < P.length ∧ i < 12
        · obtain ⟨hlt, hl12⟩ := hgo
          have hltI : (i : Int) < (P.length : Nat) := by omega
          have hl12I : (i : Int) < 12 := by omega
          rcases ha3 with h0 | ⟨b3, o3, rfl, ha3⟩
          · omega
          obtain ⟨x3, hx3, rx3⟩ := row3 i _ (List.getElem?_eq_getElem hlt)
          have hg3 := ha3 i hlt
          rw [hx3] at hg3
          have hg3 := sub_getk hg3 sN
          obtain ⟨p, m, hpm, hxw, hpl, hcs⟩ := hprow _ (List.getElem_mem hlt)
          rw [hpm] at rx3
          have x60 := isWord_len hxw
          obtain ⟨fa, fb⟩ := fac_in (w := x) (i := p) (m := m) hxw (by omega)
          obtain ⟨fc, fd⟩ := fac_in (w := x) (i := p + m) (m := m) hxw (by omega)
          obtain ⟨al1, al2⟩ := alike_seg hxw hpl hcs
          have sl1 := seg_len (w := x) (a := p) (m := m) (by omega)
          have sl2 := seg_len (w := x) (a := p + m) (m := m) (by omega)
          obtain ⟨s, hs⟩ : ∃ s, s = p + m := ⟨_, rfl⟩
          rw [← hs] at fc fd al1 al2 sl2
          have epm : (p : Int) + (m : Int) = (s : Int) := by omega
          obtain ⟨ax, cx, rfl, hax⟩ := rx3.opened
          rw [ints_length] at hax hg3
          have hl2 : [(p : Int), (m : Int)].length = 2 := rfl
          rw [hl2] at hax hg3
          rcases hax with h0 | ⟨bx, ox, rfl, hax⟩
          · omega
          have hx0 := hax 0 (by omega)
          have hx1 := hax 1 (by omega)
          have e0 : (ints [(p : Int), (m : Int)])[0]? = some (.int .i64 p) := rfl
          have e1 : (ints [(p : Int), (m : Int)])[1]? = some (.int .i64 m) := rfl
          rw [e0, Nat.add_zero] at hx0
          rw [e1] at hx1
          have hx0 := sub_getk hx0 sN
          have hx1 := sub_getk hx1 sN
          simp (disch := omega) [hltI, hl12I, hg3]
          refine plays (lights [0, 1, 2, 3, 4, 5, 6, 7, 8, 9, 10, 11, 12] (.one 13 1 (lights [14, 15, 16, 17, 18] .fin))) tab_ok (by kernel_rfl) (by kernel_rfl) (by rfl) ?_
          simp (disch := omega) [hg3, hx0, hx1]
          refine impl_FactorAt x p m _ _ (by omega) (by omega) (by omega) ?_
          rw [fa, fb]
          intro N7 t7
          have hg3 := sub_getk hg3 t7
          have hx0 := sub_getk hx0 t7
          have hx1 := sub_getk hx1 t7
          simp (disch := omega) [tup2]
          refine ⟨t7, ?_⟩
          refine plays (lights [0, 1, 2, 3, 4, 5, 6, 7, 8, 9, 10, 11, 12, 13, 14, 15, 16, 17, 18, 19] (.one 20 1 (lights [21, 22, 23, 24, 25] .fin))) tab_ok (by kernel_rfl) (by kernel_rfl) (by rfl) ?_
          simp (disch := omega) [hg3, hx0, hx1, epm]
          refine impl_FactorAt x s m _ _ (by omega) (by omega) (by omega) ?_
          rw [fc, fd]
          intro N8 t8
          simp (disch := omega) [tup2]
          refine ⟨t8, ?_⟩
          refine impl_AreAlike _ _ _ _ (by omega) (by omega) ?_
          rw [al1, al2]
          simp (disch := omega) [tup2]
          exact Rnd.mk' (i + 1) (by omega) (by (repeat (first | exact km | refine kp rfl ?_ | refine km' rfl ?_))) (by simp (disch := omega)) ⟨(sN.trans t7).trans t8, by omega⟩
        · have hgoI : ¬ ((i : Int) < (P.length : Nat) ∧ (i : Int) < 12) := by omega
          have sF := sF.trans sN
          by_cases hlt : i < P.length
          · have hltI : (i : Int) < (P.length : Nat) := by omega
            have hl12I : ¬ (i : Int) < 12 := by omega
            simp (disch := omega) [hltI, hl12I]
            refine drawASq7_does v xs _ _ (hv.sub sF) (by omega) ?_
            intro y N1 t1 hy
            have sF := sF.trans t1
            simp (disch := omega)
            refine impl_AbelianSquares y _ _ (by omega) ?_
            intro v5 rs5 N5 N6 ro5 o5
            have t5 := ro5.sub.trans o5.sub
            have r5 := rdSS_of ro5 o5
            have sF := sF.trans t5
            simp (disch := omega)
            refine spec_AbelianSquares y _ _ (by omega) ?_
            intro v6 rs6 N7 N8 ro6 o6
            have t6 := ro6.sub.trans o6.sub
            have r6 := rdSS_of ro6 o6
            have r5 := r5.sub t6
            have sF := sF.trans t6
            simp (disch := omega)
            refine drawCAl_does v xs _ _ (hv.sub sF) (by omega) ?_
            intro z N9 t9 hz
            have sF := sF.trans t9
            have r5 := r5.sub t9
            have r6 := r6.sub t9
            clear ro5 ro6 o5 o6
            simp (disch := omega)
            refine impl_CountAlike z _ _ (by omega) ?_
            simp (disch := omega) [tup2]
            refine spec_CountAlike z _ _ (by omega) ?_
            simp (disch := omega) [tup2]
            refine drawSo_does v xs _ _ (hv.sub sF) (by omega) ?_
            intro q N10 t10 hq
            have sF := sF.trans t10
            have r5 := r5.sub t10
            have r6 := r6.sub t10
            simp (disch := omega)
            refine impl_SortedWord q _ _ (by omega) ?_
            intro N11 t11
            have sF := sF.trans t11
            have r5 := r5.sub t11
            have r6 := r6.sub t11
            simp (disch := omega) [tup2]
            refine spec_SortedWord q _ _ (by omega) ?_
            intro N12 t12
            have sF := sF.trans t12
            have r5 := r5.sub t12
            have r6 := r6.sub t12
            have pl := powR_len y 2
            have prw := powR_row (w := y) (k := 2)
            generalize powR y 2 = P5 at *
            generalize powC y 2 = C5 at *
            generalize alikeN z = c7 at *
            generalize alikeNC z = c8 at *
            generalize (if isWord q then srtL q else []) = c9 at *
            generalize wcode q = c10 at *
            simp (disch := omega) [tup2]
            refine rows5_does v5 v6 P5 P5 _ _ r5 r6 (by omega) (by omega) (fun r hr => by rw [prw r hr]; omega) (fun r hr => by rw [prw r hr]; omega) ?_
            rw [beq_self_eq_true]
            simp (disch := omega)
            exact ret_of (h _ sF)
          · have hltI : ¬ (i : Int) < (P.length : Nat) := by omega
            simp (disch := omega) [hltI]
            refine drawASq7_does v xs _ _ (hv.sub sF) (by omega) ?_
            intro y N1 t1 hy
            have sF := sF.trans t1
            simp (disch := omega)
            refine impl_AbelianSquares y _ _ (by omega) ?_
            intro v5 rs5 N5 N6 ro5 o5
            have t5 := ro5.sub.trans o5.sub
            have r5 := rdSS_of ro5 o5
            have sF := sF.trans t5
            simp (disch := omega)
            refine spec_AbelianSquares y _ _ (by omega) ?_
            intro v6 rs6 N7 N8 ro6 o6
            have t6 := ro6.sub.trans o6.sub
            have r6 := rdSS_of ro6 o6
            have r5 := r5.sub t6
            have sF := sF.trans t6
            simp (disch := omega)
            refine drawCAl_does v xs _ _ (hv.sub sF) (by omega) ?_
            intro z N9 t9 hz
            have sF := sF.trans t9
            have r5 := r5.sub t9
            have r6 := r6.sub t9
            clear ro5 ro6 o5 o6
            simp (disch := omega)
            refine impl_CountAlike z _ _ (by omega) ?_
            simp (disch := omega) [tup2]
            refine spec_CountAlike z _ _ (by omega) ?_
            simp (disch := omega) [tup2]
            refine drawSo_does v xs _ _ (hv.sub sF) (by omega) ?_
            intro q N10 t10 hq
            have sF := sF.trans t10
            have r5 := r5.sub t10
            have r6 := r6.sub t10
            simp (disch := omega)
            refine impl_SortedWord q _ _ (by omega) ?_
            intro N11 t11
            have sF := sF.trans t11
            have r5 := r5.sub t11
            have r6 := r6.sub t11
            simp (disch := omega) [tup2]
            refine spec_SortedWord q _ _ (by omega) ?_
            intro N12 t12
            have sF := sF.trans t12
            have r5 := r5.sub t12
            have r6 := r6.sub t12
            have pl := powR_len y 2
            have prw := powR_row (w := y) (k := 2)
            generalize powR y 2 = P5 at *
            generalize powC y 2 = C5 at *
            generalize alikeN z = c7 at *
            generalize alikeNC z = c8 at *
            generalize (if isWord q then srtL q else []) = c9 at *
            generalize wcode q = c10 at *
            simp (disch := omega) [tup2]
            refine rows5_does v5 v6 P5 P5 _ _ r5 r6 (by omega) (by omega) (fun r hr => by rw [prw r hr]; omega) (fun r hr => by rw [prw r hr]; omega) ?_
            rw [beq_self_eq_true]
            simp (disch := omega)
            exact ret_of (h _ sF)
    · have hc0b : (wwC zs == 0) = false := beq_eq_false_iff_ne.2 hc0
      have hwl : (wwL zs).length ≤ 0 := by unfold wwL; rw [if_neg hc0]; exact Nat.le_refl 0
      generalize wwL zs = L at *
      generalize wwC zs = c0 at *
      simp (disch := omega) [hc0b, hc0, tup2]
      refine words5_does v1 v2 L L _ _ r1 r2 (by omega) (by omega) ?_
      rw [beq_self_eq_true]
      simp (disch := omega)
      refine drawAPw_does v xs _ _ (hv.sub sF) (by omega) ?_
      intro x k N1 t1 hx hk1 hk2
      have sF := sF.trans t1
      simp (disch := omega)
      refine impl_AbelianPowers x k _ _ (by omega) ?_
      intro v3 rs3 N2 N3 ro3 o3
      have t3 := ro3.sub.trans o3.sub
      have r3 := rdSS_of ro3 o3
      have sF := sF.trans t3
      simp (disch := omega)
      refine spec_AbelianPowers x k _ _ (by omega) ?_
      intro v4 rs4 N4 N5 ro4 o4
      have t4 := ro4.sub.trans o4.sub
      have r4 := rdSS_of ro4 o4
      have r3 := r3.sub t4
      have sF := sF.trans t4
      clear ro3 ro4 o3 o4
      simp (disch := omega)
      refine impl_IsAbelianFree x k _ _ (by omega) ?_
      simp (disch := omega) [tup2]
      refine spec_IsAbelianFree x k _ _ (by omega) ?_
      have hprow : ∀ r ∈ powR x k, ∃ i m : Nat, r = [(i : Int), (m : Int)] ∧ isWord x = true ∧ i + m + m ≤ x.length ∧ counts (seg x (i + m) m) = counts (seg x i m) := fun r hr => pow_row hr
      have pl := powR_len x k
      have prw := powR_row (w := x) (k := k)
      have pe : (powR x k).isEmpty = ((powR x k).length == 0) := by cases powR x k <;> rfl
      generalize powR x k = P at *
      generalize hC : powC x k = C at *
      obtain ⟨rs, rd3, n3, row3⟩ := r3
      have r3 : RdSS N5 v3 P := ⟨rs, rd3, n3, row3⟩
      obtain ⟨a3, c3, rfl, ha3⟩ := rd3.opened
      rw [n3] at ha3 rd3 ⊢
      rw [n3] at r3
      simp (disch := omega) [tup2]
      refine rows5_does _ v4 P P _ _ r3 r4 (by omega) (by omega) (fun r hr => by rw [prw r hr]; omega) (fun r hr => by rw [prw r hr]; omega) ?_
      rw [beq_self_eq_true]
      by_cases hC0 : C = 0
      · rw [decide_eq_true hC0, Bool.true_and, pe]
        have hC0b : (C == 0) = true := by rw [hC0]; rfl
        have hpi : ((P.length : Int) == 0) = (P.length == 0) := by
          rw [Bool.eq_iff_iff, beq_iff_eq, beq_iff_eq]; omega
        generalize hE : (P.length == 0) = E at *
        simp (disch := omega) [hC0b, hpi]
        refine loop_to tab_ok [2, 34, 35, 36, 37, 38, 39, 40, 237, 238, 239, 240, 241, 242, 243, 244, 245, 246, 247, 248, 249, 250, 251, 252, 253, 254, 255, 256, 257, 258, 259, 260, 261, 262, 263, 264, 265, 266, 267, 268, 269, 270, 271, 272, 273, 274, 275, 276, 277, 278, 279, 280, 281, 282, 283, 284, 285, 286, 287, 288, 289, 290, 291, 292, 293, 294, 295, 296, 297, 298, 299, 300, 301, 302, 303, 304, 305, 306, 307, 308, 309, 310, 311, 312, 313] (fun i : Nat => [(34, .int .i64 i)]) (fun i N => Sub N5 N ∧ i ≤ P.length) (fun i => P.length - i) 0 (by kernel_rfl) (by simp (disch := omega)) ⟨Sub.refl _, Nat.zero_le _⟩ ?_
        rintro i N6 g ⟨sN, hi⟩
        by_cases hgo : i < P.length ∧ i < 12
        · obtain ⟨hlt, hl12⟩ := hgo
          have hltI : (i : Int) < (P.length : Nat) := by omega
          have hl12I : (i : Int) < 12 := by omega
          rcases ha3 with h0 | ⟨b3, o3, rfl, ha3⟩
          · omega
          obtain ⟨x3, hx3, rx3⟩ := row3 i _ (List.getElem?_eq_getElem hlt)
          have hg3 := ha3 i hlt
          rw [hx3] at hg3
          have hg3 := sub_getk hg3 sN
          obtain ⟨p, m, hpm, hxw, hpl, hcs⟩ := hprow _ (List.getElem_mem hlt)
          rw [hpm] at rx3
          have x60 := isWord_len hxw
          obtain ⟨fa, fb⟩ := fac_in (w := x) (i := p) (m := m) hxw (by omega)
          obtain ⟨fc, fd⟩ := fac_in (w := x) (i := p + m) (m := m) hxw (by omega)
          obtain ⟨al1, al2⟩ := alike_seg hxw hpl hcs
          have sl1 := seg_len (w := x) (a := p) (m := m) (by omega)
          have sl2 := seg_len (w := x) (a := p + m) (m := m) (by omega)
          obtain ⟨s, hs⟩ : ∃ s, s = p + m := ⟨_, rfl⟩
          rw [← hs] at fc fd al1 al2 sl2
          have epm : (p : Int) + (m : Int) = (s : Int) := by omega
          obtain ⟨ax, cx, rfl, hax⟩ := rx3.opened
          rw [ints_length] at hax hg3
          have hl2 : [(p : Int), (m : Int)].length = 2 := rfl
          rw [hl2] at hax hg3
          rcases hax with h0 | ⟨bx, ox, rfl, hax⟩
          · omega
          have hx0 := hax 0 (by omega)
          have hx1 := hax 1 (by omega)
          have e0 : (ints [(p : Int), (m : Int)])[0]? = some (.int .i64 p) := rfl
          have e1 : (ints [(p : Int), (m : Int)])[1]? = some (.int .i64 m) := rfl
          rw [e0, Nat.add_zero] at hx0
          rw [e1] at hx1
          have hx0 := sub_getk hx0 sN
          have hx1 := sub_getk hx1 sN
          simp (disch := omega) [hltI, hl12I, hg3]
          refine plays (lights [0, 1, 2, 3, 4, 5, 6, 7, 8, 9, 10, 11, 12] (.one 13 1 (lights [14, 15, 16, 17, 18] .fin))) tab_ok (by kernel_rfl) (by kernel_rfl) (by rfl) ?_
          simp (disch := omega) [hg3, hx0, hx1]
          refine impl_FactorAt x p m _ _ (by omega) (by omega) (by omega) ?_
          rw [fa, fb]
          intro N7 t7
          have hg3 := sub_getk hg3 t7
          have hx0 := sub_getk hx0 t7
          have hx1 := sub_getk hx1 t7
          simp (disch := omega) [tup2]
          refine ⟨t7, ?_⟩
          refine plays (lights [0, 1, 2, 3, 4, 5, 6, 7, 8, 9, 10, 11, 12, 13, 14, 15, 16, 17, 18, 19] (.one 20 1 (lights [21, 22, 23, 24, 25] .fin))) tab_ok (by kernel_rfl) (by kernel_rfl) (by rfl) ?_
          simp (disch := omega) [hg3, hx0, hx1, epm]
          refine impl_FactorAt x s m _ _ (by omega) (by omega) (by omega) ?_
          rw [fc, fd]
          intro N8 t8
          simp (disch := omega) [tup2]
          refine ⟨t8, ?_⟩
          refine impl_AreAlike _ _ _ _ (by omega) (by omega) ?_
          rw [al1, al2]
          simp (disch := omega) [tup2]
          exact Rnd.mk' (i + 1) (by omega) (by (repeat (first | exact km | refine kp rfl ?_ | refine km' rfl ?_))) (by simp (disch := omega)) ⟨(sN.trans t7).trans t8, by omega⟩
        · have hgoI : ¬ ((i : Int) < (P.length : Nat) ∧ (i : Int) < 12) := by omega
          have sF := sF.trans sN
          by_cases hlt : i < P.length
          · have hltI : (i : Int) < (P.length : Nat) := by omega
            have hl12I : ¬ (i : Int) < 12 := by omega
            simp (disch := omega) [hltI, hl12I]
            refine drawASq7_does v xs _ _ (hv.sub sF) (by omega) ?_
            intro y N1 t1 hy
            have sF := sF.trans t1
            simp (disch := omega)
            refine impl_AbelianSquares y _ _ (by omega) ?_
            intro v5 rs5 N5 N6 ro5 o5
            have t5 := ro5.sub.trans o5.sub
            have r5 := rdSS_of ro5 o5
            have sF := sF.trans t5
            simp (disch := omega)
            refine spec_AbelianSquares y _ _ (by omega) ?_
            intro v6 rs6 N7 N8 ro6 o6
            have t6 := ro6.sub.trans o6.sub
            have r6 := rdSS_of ro6 o6
            have r5 := r5.sub t6
            have sF := sF.trans t6
            simp (disch := omega)
            refine drawCAl_does v xs _ _ (hv.sub sF) (by omega) ?_
            intro z N9 t9 hz
            have sF := sF.trans t9
            have r5 := r5.sub t9
            have r6 := r6.sub t9
            clear ro5 ro6 o5 o6
            simp (disch := omega)
            refine impl_CountAlike z _ _ (by omega) ?_
            simp (disch := omega) [tup2]
            refine spec_CountAlike z _ _ (by omega) ?_
            simp (disch := omega) [tup2]
            refine drawSo_does v xs _ _ (hv.sub sF) (by omega) ?_
            intro q N10 t10 hq
            have sF := sF.trans t10
            have r5 := r5.sub t10
            have r6 := r6.sub t10
            simp (disch := omega)
            refine impl_SortedWord q _ _ (by omega) ?_
            intro N11 t11
            have sF := sF.trans t11
            have r5 := r5.sub t11
            have r6 := r6.sub t11
            simp (disch := omega) [tup2]
            refine spec_SortedWord q _ _ (by omega) ?_
            intro N12 t12
            have sF := sF.trans t12
            have r5 := r5.sub t12
            have r6 := r6.sub t12
            have pl := powR_len y 2
            have prw := powR_row (w := y) (k := 2)
            generalize powR y 2 = P5 at *
            generalize powC y 2 = C5 at *
            generalize alikeN z = c7 at *
            generalize alikeNC z = c8 at *
            generalize (if isWord q then srtL q else []) = c9 at *
            generalize wcode q = c10 at *
            simp (disch := omega) [tup2]
            refine rows5_does v5 v6 P5 P5 _ _ r5 r6 (by omega) (by omega) (fun r hr => by rw [prw r hr]; omega) (fun r hr => by rw [prw r hr]; omega) ?_
            rw [beq_self_eq_true]
            simp (disch := omega)
            exact ret_of (h _ sF)
          · have hltI : ¬ (i : Int) < (P.length : Nat) := by omega
            simp (disch := omega) [hltI]
            refine drawASq7_does v xs _ _ (hv.sub sF) (by omega) ?_
            intro y N1 t1 hy
            have sF := sF.trans t1
            simp (disch := omega)
            refine impl_AbelianSquares y _ _ (by omega) ?_
            intro v5 rs5 N5 N6 ro5 o5
            have t5 := ro5.sub.trans o5.sub
            have r5 := rdSS_of ro5 o5
            have sF := sF.trans t5
            simp (disch := omega)
            refine spec_AbelianSquares y _ _ (by omega) ?_
            intro v6 rs6 N7 N8 ro6 o6
            have t6 := ro6.sub.trans o6.sub
            have r6 := rdSS_of ro6 o6
            have r5 := r5.sub t6
            have sF := sF.trans t6
            simp (disch := omega)
            refine drawCAl_does v xs _ _ (hv.sub sF) (by omega) ?_
            intro z N9 t9 hz
            have sF := sF.trans t9
            have r5 := r5.sub t9
            have r6 := r6.sub t9
            clear ro5 ro6 o5 o6
            simp (disch := omega)
            refine impl_CountAlike z _ _ (by omega) ?_
            simp (disch := omega) [tup2]
            refine spec_CountAlike z _ _ (by omega) ?_
            simp (disch := omega) [tup2]
            refine drawSo_does v xs _ _ (hv.sub sF) (by omega) ?_
            intro q N10 t10 hq
            have sF := sF.trans t10
            have r5 := r5.sub t10
            have r6 := r6.sub t10
            simp (disch := omega)
            refine impl_SortedWord q _ _ (by omega) ?_
            intro N11 t11
            have sF := sF.trans t11
            have r5 := r5.sub t11
            have r6 := r6.sub t11
            simp (disch := omega) [tup2]
            refine spec_SortedWord q _ _ (by omega) ?_
            intro N12 t12
            have sF := sF.trans t12
            have r5 := r5.sub t12
            have r6 := r6.sub t12
            have pl := powR_len y 2
            have prw := powR_row (w := y) (k := 2)
            generalize powR y 2 = P5 at *
            generalize powC y 2 = C5 at *
            generalize alikeN z = c7 at *
            generalize alikeNC z = c8 at *
            generalize (if isWord q then srtL q else []) = c9 at *
            generalize wcode q = c10 at *
            simp (disch := omega) [tup2]
            refine rows5_does v5 v6 P5 P5 _ _ r5 r6 (by omega) (by omega) (fun r hr => by rw [prw r hr]; omega) (fun r hr => by rw [prw r hr]; omega) ?_
            rw [beq_self_eq_true]
            simp (disch := omega)
            exact ret_of (h _ sF)
      · rw [decide_eq_false hC0, Bool.false_and]
        have hC0b : (C == 0) = false := beq_eq_false_iff_ne.2 hC0
        simp (disch := omega) [hC0b]
        refine loop_to tab_ok [2, 34, 35, 36, 37, 38, 39, 40, 237, 238, 239, 240, 241, 242, 243, 244, 245, 246, 247, 248, 249, 250, 251, 252, 253, 254, 255, 256, 257, 258, 259, 260, 261, 262, 263, 264, 265, 266, 267, 268, 269, 270, 271, 272, 273, 274, 275, 276, 277, 278, 279, 280, 281, 282, 283, 284, 285, 286, 287, 288, 289, 290, 291, 292, 293, 294, 295, 296, 297, 298, 299, 300, 301, 302, 303, 304, 305, 306, 307, 308, 309, 310, 311, 312, 313] (fun i : Nat => [(34, .int .i64 i)]) (fun i N => Sub N5 N ∧ i ≤ P.length) (fun i => P.length - i) 0 (by kernel_rfl) (by simp (disch := omega)) ⟨Sub.refl _, Nat.zero_le _⟩ ?_
        rintro i N6 g ⟨sN, hi⟩
        by_cases hgo : i < P.length ∧ i < 12
        · obtain ⟨hlt, hl12⟩ := hgo
          have hltI : (i : Int) < (P.length : Nat) := by omega
          have hl12I : (i : Int) < 12 := by omega
          rcases ha3 with h0 | ⟨b3, o3, rfl, ha3⟩
          · omega
          obtain ⟨x3, hx3, rx3⟩ := row3 i _ (List.getElem?_eq_getElem hlt)
          have hg3 := ha3 i hlt
          rw [hx3] at hg3
          have hg3 := sub_getk hg3 sN
          obtain ⟨p, m, hpm, hxw, hpl, hcs⟩ := hprow _ (List.getElem_mem hlt)
          rw [hpm] at rx3
          have x60 := isWord_len hxw
          obtain ⟨fa, fb⟩ := fac_in (w := x) (i := p) (m := m) hxw (by omega)
          obtain ⟨fc, fd⟩ := fac_in (w := x) (i := p + m) (m := m) hxw (by omega)
          obtain ⟨al1, al2⟩ := alike_seg hxw hpl hcs
          have sl1 := seg_len (w := x) (a := p) (m := m) (by omega)
          have sl2 := seg_len (w := x) (a := p + m) (m := m) (by omega)
          obtain ⟨s, hs⟩ : ∃ s, s = p + m := ⟨_, rfl⟩
          rw [← hs] at fc fd al1 al2 sl2
          have epm : (p : Int) + (m : Int) = (s : Int) := by omega
          obtain ⟨ax, cx, rfl, hax⟩ := rx3.opened
          rw [ints_length] at hax hg3
          have hl2 : [(p : Int), (m : Int)].length = 2 := rfl
          rw [hl2] at hax hg3
          rcases hax with h0 | ⟨bx, ox, rfl, hax⟩
          · omega
          have hx0 := hax 0 (by omega)
          have hx1 := hax 1 (by omega)
          have e0 : (ints [(p : Int), (m : Int)])[0]? = some (.int .i64 p) := rfl
          have e1 : (ints [(p : Int), (m : Int)])[1]? = some (.int .i64 m) := rfl
          rw [e0, Nat.add_zero] at hx0
          rw [e1] at hx1
          have hx0 := sub_getk hx0 sN
          have hx1 := sub_getk hx1 sN
          simp (disch := omega) [hltI, hl12I, hg3]
          refine plays (lights [0, 1, 2, 3, 4, 5, 6, 7, 8, 9, 10, 11, 12] (.one 13 1 (lights [14, 15, 16, 17, 18] .fin))) tab_ok (by kernel_rfl) (by kernel_rfl) (by rfl) ?_
          simp (disch := omega) [hg3, hx0, hx1]
          refine impl_FactorAt x p m _ _ (by omega) (by omega) (by omega) ?_
          rw [fa, fb]
          intro N7 t7
          have hg3 := sub_getk hg3 t7
          have hx0 := sub_getk hx0 t7
          have hx1 := sub_getk hx1 t7
          simp (disch := omega) [tup2]
          refine ⟨t7, ?_⟩
          refine plays (lights [0, 1, 2, 3, 4, 5, 6, 7, 8, 9, 10, 11, 12, 13, 14, 15, 16, 17, 18, 19] (.one 20 1 (lights [21, 22, 23, 24, 25] .fin))) tab_ok (by kernel_rfl) (by kernel_rfl) (by rfl) ?_
          simp (disch := omega) [hg3, hx0, hx1, epm]
          refine impl_FactorAt x s m _ _ (by omega) (by omega) (by omega) ?_
          rw [fc, fd]
          intro N8 t8
          simp (disch := omega) [tup2]
          refine ⟨t8, ?_⟩
          refine impl_AreAlike _ _ _ _ (by omega) (by omega) ?_
          rw [al1, al2]
          simp (disch := omega) [tup2]
          exact Rnd.mk' (i + 1) (by omega) (by (repeat (first | exact km | refine kp rfl ?_ | refine km' rfl ?_))) (by simp (disch := omega)) ⟨(sN.trans t7).trans t8, by omega⟩
        · have hgoI : ¬ ((i : Int) < (P.length : Nat) ∧ (i : Int) < 12) := by omega
          have sF := sF.trans sN
          by_cases hlt : i < P.length
          · have hltI : (i : Int) < (P.length : Nat) := by omega
            have hl12I : ¬ (i : Int) < 12 := by omega
            simp (disch := omega) [hltI, hl12I]
            refine drawASq7_does v xs _ _ (hv.sub sF) (by omega) ?_
            intro y N1 t1 hy
            have sF := sF.trans t1
            simp (disch := omega)
            refine impl_AbelianSquares y _ _ (by omega) ?_
            intro v5 rs5 N5 N6 ro5 o5
            have t5 := ro5.sub.trans o5.sub
            have r5 := rdSS_of ro5 o5
            have sF := sF.trans t5
            simp (disch := omega)
            refine spec_AbelianSquares y _ _ (by omega) ?_
            intro v6 rs6 N7 N8 ro6 o6
            have t6 := ro6.sub.trans o6.sub
            have r6 := rdSS_of ro6 o6
            have r5 := r5.sub t6
            have sF := sF.trans t6
            simp (disch := omega)
            refine drawCAl_does v xs _ _ (hv.sub sF) (by omega) ?_
            intro z N9 t9 hz
            have sF := sF.trans t9
            have r5 := r5.sub t9
            have r6 := r6.sub t9
            clear ro5 ro6 o5 o6
            simp (disch := omega)
            refine impl_CountAlike z _ _ (by omega) ?_
            simp (disch := omega) [tup2]
            refine spec_CountAlike z _ _ (by omega) ?_
            simp (disch := omega) [tup2]
            refine drawSo_does v xs _ _ (hv.sub sF) (by omega) ?_
            intro q N10 t10 hq
            have sF := sF.trans t10
            have r5 := r5.sub t10
            have r6 := r6.sub t10
            simp (disch := omega)
            refine impl_SortedWord q _ _ (by omega) ?_
            intro N11 t11
            have sF := sF.trans t11
            have r5 := r5.sub t11
            have r6 := r6.sub t11
            simp (disch := omega) [tup2]
            refine spec_SortedWord q _ _ (by omega) ?_
            intro N12 t12
            have sF := sF.trans t12
            have r5 := r5.sub t12
            have r6 := r6.sub t12
            have pl := powR_len y 2
            have prw := powR_row (w := y) (k := 2)
            generalize powR y 2 = P5 at *
            generalize powC y 2 = C5 at *
            generalize alikeN z = c7 at *
            generalize alikeNC z = c8 at *
            generalize (if isWord q then srtL q else []) = c9 at *
            generalize wcode q = c10 at *
            simp (disch := omega) [tup2]
            refine rows5_does v5 v6 P5 P5 _ _ r5 r6 (by omega) (by omega) (fun r hr => by rw [prw r hr]; omega) (fun r hr => by rw [prw r hr]; omega) ?_
            rw [beq_self_eq_true]
            simp (disch := omega)
            exact ret_of (h _ sF)
          · have hltI : ¬ (i : Int) < (P.length : Nat) := by omega
            simp (disch := omega) [hltI]
            refine drawASq7_does v xs _ _ (hv.sub sF) (by omega) ?_
            intro y N1 t1 hy
            have sF := sF.trans t1
            simp (disch := omega)
            refine impl_AbelianSquares y _ _ (by omega) ?_
            intro v5 rs5 N5 N6 ro5 o5
            have t5 := ro5.sub.trans o5.sub
            have r5 := rdSS_of ro5 o5
            have sF := sF.trans t5
            simp (disch := omega)
            refine spec_AbelianSquares y _ _ (by omega) ?_
            intro v6 rs6 N7 N8 ro6 o6
            have t6 := ro6.sub.trans o6.sub
            have r6 := rdSS_of ro6 o6
            have r5 := r5.sub t6
            have sF := sF.trans t6
            simp (disch := omega)
            refine drawCAl_does v xs _ _ (hv.sub sF) (by omega) ?_
            intro z N9 t9 hz
            have sF := sF.trans t9
            have r5 := r5.sub t9
            have r6 := r6.sub t9
            clear ro5 ro6 o5 o6
            simp (disch := omega)
            refine impl_CountAlike z _ _ (by omega) ?_
            simp (disch := omega) [tup2]
            refine spec_CountAlike z _ _ (by omega) ?_
            simp (disch := omega) [tup2]
            refine drawSo_does v xs _ _ (hv.sub sF) (by omega) ?_
            intro q N10 t10 hq
            have sF := sF.trans t10
            have r5 := r5.sub t10
            have r6 := r6.sub t10
            simp (disch := omega)
            refine impl_SortedWord q _ _ (by omega) ?_
            intro N11 t11
            have sF := sF.trans t11
            have r5 := r5.sub t11
            have r6 := r6.sub t11
            simp (disch := omega) [tup2]
            refine spec_SortedWord q _ _ (by omega) ?_
            intro N12 t12
            have sF := sF.trans t12
            have r5 := r5.sub t12
            have r6 := r6.sub t12
            have pl := powR_len y 2
            have prw := powR_row (w := y) (k := 2)
            generalize powR y 2 = P5 at *
            generalize powC y 2 = C5 at *
            generalize alikeN z = c7 at *
            generalize alikeNC z = c8 at *
            generalize (if isWord q then srtL q else []) = c9 at *
            generalize wcode q = c10 at *
            simp (disch := omega) [tup2]
            refine rows5_does v5 v6 P5 P5 _ _ r5 r6 (by omega) (by omega) (fun r hr => by rw [prw r hr]; omega) (fun r hr => by rw [prw r hr]; omega) ?_
            rw [beq_self_eq_true]
            simp (disch := omega)
            exact ret_of (h _ sF)
  · have e1 : alikeC w u = 0 := by unfold alikeC; rw [hb2]; rfl
    have e2 : alikeB w u = (srtL w == srtL u) := by unfold alikeB; rw [hb2, Bool.true_and]; rw [Bool.and_eq_true] at hb2; exact alike_srt (isWord_all hb2.1) (isWord_all hb2.2)
    rw [Bool.and_eq_true] at hb2
    have e3 : alikeB w (srtL w) = true := by unfold alikeB; rw [hb2.1, isWord_srt hb2.1, counts_srt]; simp
    have e4 : alikeC w (srtL w) = 0 := by unfold alikeC; rw [hb2.1, isWord_srt hb2.1]; rfl
    have ew : wcode w = 0 := by unfold wcode; rw [hb2.1]; rfl
    have eu : wcode u = 0 := by unfold wcode; rw [hb2.2]; rfl
    rw [e1, e2]
    simp (disch := omega) [tup2]
    refine impl_SortedWord w _ _ (by omega) ?_
    rw [hb2.1, if_pos rfl, ew]
    intro M2 s2
    have sF := sF.trans s2
    simp (disch := omega) [tup2]
    refine impl_SortedWord u _ _ (by omega) ?_
    rw [hb2.2, if_pos rfl, eu]
    intro M3 s3
    have sF := sF.trans s3
    simp (disch := omega) [tup2]
    refine impl_AreAlike w (srtL w) _ _ (by omega) (by rw [srtL_len]; omega) ?_
    rw [e3, e4]
    simp (disch := omega) [tup2]
    refine drawWW_does v xs _ _ (hv.sub sF) (by omega) ?_
    intro vz zs M2 t2 rz hzl hzb
    have sF := sF.trans t2
    simp (disch := omega)
    refine impl_WordsWith vz zs _ _ rz (by omega) ?_
    intro v1 M3 o1
    have sF := sF.trans o1.sub
    have rz := rz.sub o1.sub
    have r1 := o1.rd
    clear o1
    simp (disch := omega)
    refine spec_WordsWith vz zs _ _ rz (by omega) ?_
    intro v2 M4 o2
    have sF := sF.trans o2.sub
    have r1 := r1.sub o2.sub
    have r2 := o2.rd
    clear o2 rz
    by_cases hc0 : wwC zs = 0
    · obtain ⟨y, l, hL, hyw, hal, halc, hsy, hll⟩ := ww_first hc0
      have y60 := isWord_len hyw
      generalize wwL zs = L at *
      obtain ⟨a1, c1, rfl, ha1⟩ := r1.opened
      rw [strs_length] at ha1 r1 ⊢
      rcases ha1 with h0 | ⟨b1, o1, rfl, ha1⟩
      · rw [hL] at h0; simp at h0
      have hL1 : 1 ≤ L.length := by rw [hL]; simp
      have hg1 := ha1 0 (by omega)
      have e0 : (strs L)[0]? = some (str y) := by rw [hL]; rfl
      rw [e0, Nat.add_zero] at hg1
      have hwc : wcode y = 0 := by unfold wcode; rw [hyw]; rfl
      simp (disch := omega) [hc0, tup2]
      refine words5_does _ v2 L L _ _ r1 r2 (by omega) (by omega) ?_
      rw [beq_self_eq_true]
      simp (disch := omega) [hg1]
      refine impl_CountAlike y _ _ (by omega) ?_
      rw [hal, halc]
      simp (disch := omega) [tup2, hg1]
      refine impl_SortedWord y _ _ (by omega) ?_
      rw [hyw, if_pos rfl, hsy, hwc]
      intro M5 t5
      have sF := sF.trans t5
      have hg1 := sub_getk hg1 t5
      simp (disch := omega) [tup2, hg1]
      refine drawAPw_does v xs _ _ (hv.sub sF) (by omega) ?_
      intro x k N1 t1 hx hk1 hk2
      have sF := sF.trans t1
      simp (disch := omega)
      refine impl_AbelianPowers x k _ _ (by omega) ?_
      intro v3 rs3 N2 N3 ro3 o3
      have t3 := ro3.sub.trans o3.sub
      have r3 := rdSS_of ro3 o3
      have sF := sF.trans t3
      simp (disch := omega)
      refine spec_AbelianPowers x k _ _ (by omega) ?_
      intro v4 rs4 N4 N5 ro4 o4
      have t4 := ro4.sub.trans o4.sub
      have r4 := rdSS_of ro4 o4
      have r3 := r3.sub t4
      have sF := sF.trans t4
      clear ro3 ro4 o3 o4
      simp (disch := omega)
      refine impl_IsAbelianFree x k _ _ (by omega) ?_
      simp (disch := omega) [tup2]
      refine spec_IsAbelianFree x k _ _ (by omega) ?_
      have hprow : ∀ r ∈ powR x k, ∃ i m : Nat, r = [(i : Int), (m : Int)] ∧ isWord x = true ∧ i + m + m ≤ x.length ∧ counts (seg x (i + m) m) = counts (seg x i m) := fun r hr => pow_row hr
      have pl := powR_len x k
      have prw := powR_row (w := x) (k := k)
      have pe : (powR x k).isEmpty = ((powR x k).length == 0) := by cases powR x k <;> rfl
      generalize powR x k = P at *
      generalize hC : powC x k = C at *
      obtain ⟨rs, rd3, n3, row3⟩ := r3
      have r3 : RdSS N5 v3 P := ⟨rs, rd3, n3, row3⟩
      obtain ⟨a3, c3, rfl, ha3⟩ := rd3.opened
      rw [n3] at ha3 rd3 ⊢
      rw [n3] at r3
      simp (disch := omega) [tup2]
      refine rows5_does _ v4 P P _ _ r3 r4 (by omega) (by omega) (fun r hr => by rw [prw r hr]; omega) (fun r hr => by rw [prw r hr]; omega) ?_
      rw [beq_self_eq_true]
      by_cases hC0 : C = 0
      · rw [decide_eq_true hC0, Bool.true_and, pe]
        have hC0b : (C == 0) = true := by rw [hC0]; rfl
        have hpi : ((P.length : Int) == 0) = (P.length == 0) := by
          rw [Bool.eq_iff_iff, beq_iff_eq, beq_iff_eq]; omega
        generalize hE : (P.length == 0) = E at *
        simp (disch := omega) [hC0b, hpi]
        refine loop_to tab_ok [2, 34, 35, 36, 37, 38, 39, 40, 237, 238, 239, 240, 241, 242, 243, 244, 245, 246, 247, 248, 249, 250, 251, 252, 253, 254, 255, 256, 257, 258, 259, 260, 261, 262, 263, 264, 265, 266, 267, 268, 269, 270, 271, 272, 273, 274, 275, 276, 277, 278, 279, 280, 281, 282, 283, 284, 285, 286, 287, 288, 289, 290, 291, 292, 293, 294, 295, 296, 297, 298, 299, 300, 301, 302, 303, 304, 305, 306, 307, 308, 309, 310, 311, 312, 313] (fun i : Nat => [(34, .int .i64 i)]) (fun i N => Sub N5 N ∧ i ≤ P.length) (fun i => P.length - i) 0 (by kernel_rfl) (by simp (disch := omega)) ⟨Sub.refl _, Nat.zero_le _⟩ ?_
        rintro i N6 g ⟨sN, hi⟩
        by_cases hgo : i < P.length ∧ i < 12
        · obtain ⟨hlt, hl12⟩ := hgo
          have hltI : (i : Int) < (P.length : Nat) := by omega
          have hl12I : (i : Int) < 12 := by omega
          rcases ha3 with h0 | ⟨b3, o3, rfl, ha3⟩
          · omega
          obtain ⟨x3, hx3, rx3⟩ := row3 i _ (List.getElem?_eq_getElem hlt)
          have hg3 := ha3 i hlt
          rw [hx3] at hg3
          have hg3 := sub_getk hg3 sN
          obtain ⟨p, m, hpm, hxw, hpl, hcs⟩ := hprow _ (List.getElem_mem hlt)
          rw [hpm] at rx3
          have x60 := isWord_len hxw
          obtain ⟨fa, fb⟩ := fac_in (w := x) (i := p) (m := m) hxw (by omega)
          obtain ⟨fc, fd⟩ := fac_in (w := x) (i := p + m) (m := m) hxw (by omega)
          obtain ⟨al1, al2⟩ := alike_seg hxw hpl hcs
          have sl1 := seg_len (w := x) (a := p) (m := m) (by omega)
          have sl2 := seg_len (w := x) (a := p + m) (m := m) (by omega)
          obtain ⟨s, hs⟩ : ∃ s, s = p + m := ⟨_, rfl⟩
          rw [← hs] at fc fd al1 al2 sl2
          have epm : (p : Int) + (m : Int) = (s : Int) := by omega
          obtain ⟨ax, cx, rfl, hax⟩ := rx3.opened
          rw [ints_length] at hax hg3
          have hl2 : [(p : Int), (m : Int)].length = 2 := rfl
          rw [hl2] at hax hg3
          rcases hax with h0 | ⟨bx, ox, rfl, hax⟩
          · omega
          have hx0 := hax 0 (by omega)
          have hx1 := hax 1 (by omega)
          have e0 : (ints [(p : Int), (m : Int)])[0]? = some (.int .i64 p) := rfl
          have e1 : (ints [(p : Int), (m : Int)])[1]? = some (.int .i64 m) := rfl
          rw [e0, Nat.add_zero] at hx0
          rw [e1] at hx1
          have hx0 := sub_getk hx0 sN
          have hx1 := sub_getk hx1 sN
          simp (disch := omega) [hltI, hl12I, hg3]
          refine plays (lights [0, 1, 2, 3, 4, 5, 6, 7, 8, 9, 10, 11, 12] (.one 13 1 (lights [14, 15, 16, 17, 18] .fin))) tab_ok (by kernel_rfl) (by kernel_rfl) (by rfl) ?_
          simp (disch := omega) [hg3, hx0, hx1]
          refine impl_FactorAt x p m _ _ (by omega) (by omega) (by omega) ?_
          rw [fa, fb]
          intro N7 t7
          have hg3 := sub_getk hg3 t7
          have hx0 := sub_getk hx0 t7
          have hx1 := sub_getk hx1 t7
          simp (disch := omega) [tup2]
          refine ⟨t7, ?_⟩
          refine plays (lights [0, 1, 2, 3, 4, 5, 6, 7, 8, 9, 10, 11, 12, 13, 14, 15, 16, 17, 18, 19] (.one 20 1 (lights [21, 22, 23, 24, 25] .fin))) tab_ok (by kernel_rfl) (by kernel_rfl) (by rfl) ?_
          simp (disch := omega) [hg3, hx0, hx1, epm]
          refine impl_FactorAt x s m _ _ (by omega) (by omega) (by omega) ?_
          rw [fc, fd]
          intro N8 t8
          simp (disch := omega) [tup2]
          refine ⟨t8, ?_⟩
          refine impl_AreAlike _ _ _ _ (by omega) (by omega) ?_
          rw [al1, al2]
          simp (disch := omega) [tup2]
          exact Rnd.mk' (i + 1) (by omega) (by (repeat (first | exact km | refine kp rfl ?_ | refine km' rfl ?_))) (by simp (disch := omega)) ⟨(sN.trans t7).trans t8, by omega⟩
        · have hgoI : ¬ ((i : Int) < (P.length : Nat) ∧ (i : Int) < 12) := by omega
          have sF := sF.trans sN
          by_cases hlt : i < P.length
          · have hltI : (i : Int) < (P.length : Nat) := by omega
            have hl12I : ¬ (i : Int) < 12 := by omega
            simp (disch := omega) [hltI, hl12I]
            refine drawASq7_does v xs _ _ (hv.sub sF) (by omega) ?_
            intro y N1 t1 hy
            have sF := sF.trans t1
            simp (disch := omega)
            refine impl_AbelianSquares y _ _ (by omega) ?_
            intro v5 rs5 N5 N6 ro5 o5
            have t5 := ro5.sub.trans o5.sub
            have r5 := rdSS_of ro5 o5
            have sF := sF.trans t5
            simp (disch := omega)
            refine spec_AbelianSquares y _ _ (by omega) ?_
            intro v6 rs6 N7 N8 ro6 o6
            have t6 := ro6.sub.trans o6.sub
            have r6 := rdSS_of ro6 o6
            have r5 := r5.sub t6
            have sF := sF.trans t6
            simp (disch := omega)
            refine drawCAl_does v xs _ _ (hv.sub sF) (by omega) ?_
            intro z N9 t9 hz
            have sF := sF.trans t9
            have r5 := r5.sub t9
            have r6 := r6.sub t9
            clear ro5 ro6 o5 o6
            simp (disch := omega)
            refine impl_CountAlike z _ _ (by omega) ?_
            simp (disch := omega) [tup2]
            refine spec_CountAlike z _ _ (by omega) ?_
            simp (disch := omega) [tup2]
            refine drawSo_does v xs _ _ (hv.sub sF) (by omega) ?_
            intro q N10 t10 hq
            have sF := sF.trans t10
            have r5 := r5.sub t10
            have r6 := r6.sub t10
            simp (disch := omega)
            refine impl_SortedWord q _ _ (by omega) ?_
            intro N11 t11
            have sF := sF.trans t11
            have r5 := r5.sub t11
            have r6 := r6.sub t11
            simp (disch := omega) [tup2]
            refine spec_SortedWord q _ _ (by omega) ?_
            intro N12 t12
            have sF := sF.trans t12
            have r5 := r5.sub t12
            have r6 := r6.sub t12
            have pl := powR_len y 2
            have prw := powR_row (w := y) (k := 2)
            generalize powR y 2 = P5 at *
            generalize powC y 2 = C5 at *
            generalize alikeN z = c7 at *
            generalize alikeNC z = c8 at *
            generalize (if isWord q then srtL q else []) = c9 at *
            generalize wcode q = c10 at *
            simp (disch := omega) [tup2]
            refine rows5_does v5 v6 P5 P5 _ _ r5 r6 (by omega) (by omega) (fun r hr => by rw [prw r hr]; omega) (fun r hr => by rw [prw r hr]; omega) ?_
            rw [beq_self_eq_true]
            simp (disch := omega)
            exact ret_of (h _ sF)
          · have hltI : ¬ (i : Int) < (P.length : Nat) := by omega
            simp (disch := omega) [hltI]
            refine drawASq7_does v xs _ _ (hv.sub sF) (by omega) ?_
            intro y N1 t1 hy
            have sF := sF.trans t1
            simp (disch := omega)
            refine impl_AbelianSquares y _ _ (by omega) ?_
            intro v5 rs5 N5 N6 ro5 o5
            have t5 := ro5.sub.trans o5.sub
            have r5 := rdSS_of ro5 o5
            have sF := sF.trans t5
            simp (disch := omega)
            refine spec_AbelianSquares y _ _ (by omega) ?_
            intro v6 rs6 N7 N8 ro6 o6
            have t6 := ro6.sub.trans o6.sub
            have r6 := rdSS_of ro6 o6
            have r5 := r5.sub t6
            have sF := sF.trans t6
            simp (disch := omega)
            refine drawCAl_does v xs _ _ (hv.sub sF) (by omega) ?_
            intro z N9 t9 hz
            have sF := sF.trans t9
            have r5 := r5.sub t9
            have r6 := r6.sub t9
            clear ro5 ro6 o5 o6
            simp (disch := omega)
            refine impl_CountAlike z _ _ (by omega) ?_
            simp (disch := omega) [tup2]
            refine spec_CountAlike z _ _ (by omega) ?_
            simp (disch := omega) [tup2]
            refine drawSo_does v xs _ _ (hv.sub sF) (by omega) ?_
            intro q N10 t10 hq
            have sF := sF.trans t10
            have r5 := r5.sub t10
            have r6 := r6.sub t10
            simp (disch := omega)
            refine impl_SortedWord q _ _ (by omega) ?_
            intro N11 t11
            have sF := sF.trans t11
            have r5 := r5.sub t11
            have r6 := r6.sub t11
            simp (disch := omega) [tup2]
            refine spec_SortedWord q _ _ (by omega) ?_
            intro N12 t12
            have sF := sF.trans t12
            have r5 := r5.sub t12
            have r6 := r6.sub t12
            have pl := powR_len y 2
            have prw := powR_row (w := y) (k := 2)
            generalize powR y 2 = P5 at *
            generalize powC y 2 = C5 at *
            generalize alikeN z = c7 at *
            generalize alikeNC z = c8 at *
            generalize (if isWord q then srtL q else []) = c9 at *
            generalize wcode q = c10 at *
            simp (disch := omega) [tup2]
            refine rows5_does v5 v6 P5 P5 _ _ r5 r6 (by omega) (by omega) (fun r hr => by rw [prw r hr]; omega) (fun r hr => by rw [prw r hr]; omega) ?_
            rw [beq_self_eq_true]
            simp (disch := omega)
            exact ret_of (h _ sF)
      · rw [decide_eq_false hC0, Bool.false_and]
        have hC0b : (C == 0) = false := beq_eq_false_iff_ne.2 hC0
        simp (disch := omega) [hC0b]
        refine loop_to tab_ok [2, 34, 35, 36, 37, 38, 39, 40, 237, 238, 239, 240, 241, 242, 243, 244, 245, 246, 247, 248, 249, 250, 251, 252, 253, 254, 255, 256, 257, 258, 259, 260, 261, 262, 263, 264, 265, 266, 267, 268, 269, 270, 271, 272, 273, 274, 275, 276, 277, 278, 279, 280, 281, 282, 283, 284, 285, 286, 287, 288, 289, 290, 291, 292, 293, 294, 295, 296, 297, 298, 299, 300, 301, 302, 303, 304, 305, 306, 307, 308, 309, 310, 311, 312, 313] (fun i : Nat => [(34, .int .i64 i)]) (fun i N => Sub N5 N ∧ i ≤ P.length) (fun i => P.length - i) 0 (by kernel_rfl) (by simp (disch := omega)) ⟨Sub.refl _, Nat.zero_le _⟩ ?_
        rintro i N6 g ⟨sN, hi⟩
        by_cases hgo : i < P.length ∧ i < 12
        · obtain ⟨hlt, hl12⟩ := hgo
          have hltI : (i : Int) < (P.length : Nat) := by omega
          have hl12I : (i : Int) < 12 := by omega
          rcases ha3 with h0 | ⟨b3, o3, rfl, ha3⟩
          · omega
          obtain ⟨x3, hx3, rx3⟩ := row3 i _ (List.getElem?_eq_getElem hlt)
          have hg3 := ha3 i hlt
          rw [hx3] at hg3
          have hg3 := sub_getk hg3 sN
          obtain ⟨p, m, hpm, hxw, hpl, hcs⟩ := hprow _ (List.getElem_mem hlt)
          rw [hpm] at rx3
          have x60 := isWord_len hxw
          obtain ⟨fa, fb⟩ := fac_in (w := x) (i := p) (m := m) hxw (by omega)
          obtain ⟨fc, fd⟩ := fac_in (w := x) (i := p + m) (m := m) hxw (by omega)
          obtain ⟨al1, al2⟩ := alike_seg hxw hpl hcs
          have sl1 := seg_len (w := x) (a := p) (m := m) (by omega)
          have sl2 := seg_len (w := x) (a := p + m) (m := m) (by omega)
          obtain ⟨s, hs⟩ : ∃ s, s = p + m := ⟨_, rfl⟩
          rw [← hs] at fc fd al1 al2 sl2
          have epm : (p : Int) + (m : Int) = (s : Int) := by omega
          obtain ⟨ax, cx, rfl, hax⟩ := rx3.opened
          rw [ints_length] at hax hg3
          have hl2 : [(p : Int), (m : Int)].length = 2 := rfl
          rw [hl2] at hax hg3
          rcases hax with h0 | ⟨bx, ox, rfl, hax⟩
          · omega
          have hx0 := hax 0 (by omega)
          have hx1 := hax 1 (by omega)
          have e0 : (ints [(p : Int), (m : Int)])[0]? = some (.int .i64 p) := rfl
          have e1 : (ints [(p : Int), (m : Int)])[1]? = some (.int .i64 m) := rfl
          rw [e0, Nat.add_zero] at hx0
          rw [e1] at hx1
          have hx0 := sub_getk hx0 sN
          have hx1 := sub_getk hx1 sN
          simp (disch := omega) [hltI, hl12I, hg3]
          refine plays (lights [0, 1, 2, 3, 4, 5, 6, 7, 8, 9, 10, 11, 12] (.one 13 1 (lights [14, 15, 16, 17, 18] .fin))) tab_ok (by kernel_rfl) (by kernel_rfl) (by rfl) ?_
          simp (disch := omega) [hg3, hx0, hx1]
          refine impl_FactorAt x p m _ _ (by omega) (by omega) (by omega) ?_
          rw [fa, fb]
          intro N7 t7
          have hg3 := sub_getk hg3 t7
          have hx0 := sub_getk hx0 t7
          have hx1 := sub_getk hx1 t7
          simp (disch := omega) [tup2]
          refine ⟨t7, ?_⟩
          refine plays (lights [0, 1, 2, 3, 4, 5, 6, 7, 8, 9, 10, 11, 12, 13, 14, 15, 16, 17, 18, 19] (.one 20 1 (lights [21, 22, 23, 24, 25] .fin))) tab_ok (by kernel_rfl) (by kernel_rfl) (by rfl) ?_
          simp (disch := omega) [hg3, hx0, hx1, epm]
          refine impl_FactorAt x s m _ _ (by omega) (by omega) (by omega) ?_
          rw [fc, fd]
          intro N8 t8
          simp (disch := omega) [tup2]
          refine ⟨t8, ?_⟩
          refine impl_AreAlike _ _ _ _ (by omega) (by omega) ?_
          rw [al1, al2]
          simp (disch := omega) [tup2]
          exact Rnd.mk' (i + 1) (by omega) (by (repeat (first | exact km | refine kp rfl ?_ | refine km' rfl ?_))) (by simp (disch := omega)) ⟨(sN.trans t7).trans t8, by omega⟩
        · have hgoI : ¬ ((i : Int) < (P.length : Nat) ∧ (i : Int) < 12) := by omega
          have sF := sF.trans sN
          by_cases hlt : i < P.length
          · have hltI : (i : Int) < (P.length : Nat) := by omega
            have hl12I : ¬ (i : Int) < 12 := by omega
            simp (disch := omega) [hltI, hl12I]
            refine drawASq7_does v xs _ _ (hv.sub sF) (by omega) ?_
            intro y N1 t1 hy
            have sF := sF.trans t1
            simp (disch := omega)
            refine impl_AbelianSquares y _ _ (by omega) ?_
            intro v5 rs5 N5 N6 ro5 o5
            have t5 := ro5.sub.trans o5.sub
            have r5 := rdSS_of ro5 o5
            have sF := sF.trans t5
            simp (disch := omega)
            refine spec_AbelianSquares y _ _ (by omega) ?_
            intro v6 rs6 N7 N8 ro6 o6
            have t6 := ro6.sub.trans o6.sub
            have r6 := rdSS_of ro6 o6
            have r5 := r5.sub t6
            have sF := sF.trans t6
            simp (disch := omega)
            refine drawCAl_does v xs _ _ (hv.sub sF) (by omega) ?_
            intro z N9 t9 hz
            have sF := sF.trans t9
            have r5 := r5.sub t9
            have r6 := r6.sub t9
            clear ro5 ro6 o5 o6
            simp (disch := omega)
            refine impl_CountAlike z _ _ (by omega) ?_
            simp (disch := omega) [tup2]
            refine spec_CountAlike z _ _ (by omega) ?_
            simp (disch := omega) [tup2]
            refine drawSo_does v xs _ _ (hv.sub sF) (by omega) ?_
            intro q N10 t10 hq
            have sF := sF.trans t10
            have r5 := r5.sub t10
            have r6 := r6.sub t10
            simp (disch := omega)
            refine impl_SortedWord q _ _ (by omega) ?_
            intro N11 t11
            have sF := sF.trans t11
            have r5 := r5.sub t11
            have r6 := r6.sub t11
            simp (disch := omega) [tup2]
            refine spec_SortedWord q _ _ (by omega) ?_
            intro N12 t12
            have sF := sF.trans t12
            have r5 := r5.sub t12
            have r6 := r6.sub t12
            have pl := powR_len y 2
            have prw := powR_row (w := y) (k := 2)
            generalize powR y 2 = P5 at *
            generalize powC y 2 = C5 at *
            generalize alikeN z = c7 at *
            generalize alikeNC z = c8 at *
            generalize (if isWord q then srtL q else []) = c9 at *
            generalize wcode q = c10 at *
            simp (disch := omega) [tup2]
            refine rows5_does v5 v6 P5 P5 _ _ r5 r6 (by omega) (by omega) (fun r hr => by rw [prw r hr]; omega) (fun r hr => by rw [prw r hr]; omega) ?_
            rw [beq_self_eq_true]
            simp (disch := omega)
            exact ret_of (h _ sF)
          · have hltI : ¬ (i : Int) < (P.length : Nat) := by omega
            simp (disch := omega) [hltI]
            refine drawASq7_does v xs _ _ (hv.sub sF) (by omega) ?_
            intro y N1 t1 hy
            have sF := sF.trans t1
            simp (disch := omega)
            refine impl_AbelianSquares y _ _ (by omega) ?_
            intro v5 rs5 N5 N6 ro5 o5
            have t5 := ro5.sub.trans o5.sub
            have r5 := rdSS_of ro5 o5
            have sF := sF.trans t5
            simp (disch := omega)
            refine spec_AbelianSquares y _ _ (by omega) ?_
            intro v6 rs6 N7 N8 ro6 o6
            have t6 := ro6.sub.trans o6.sub
            have r6 := rdSS_of ro6 o6
            have r5 := r5.sub t6
            have sF := sF.trans t6
            simp (disch := omega)
            refine drawCAl_does v xs _ _ (hv.sub sF) (by omega) ?_
            intro z N9 t9 hz
            have sF := sF.trans t9
            have r5 := r5.sub t9
            have r6 := r6.sub t9
            clear ro5 ro6 o5 o6
            simp (disch := omega)
            refine impl_CountAlike z _ _ (by omega) ?_
            simp (disch := omega) [tup2]
            refine spec_CountAlike z _ _ (by omega) ?_
            simp (disch := omega) [tup2]
            refine drawSo_does v xs _ _ (hv.sub sF) (by omega) ?_
            intro q N10 t10 hq
            have sF := sF.trans t10
            have r5 := r5.sub t10
            have r6 := r6.sub t10
            simp (disch := omega)
            refine impl_SortedWord q _ _ (by omega) ?_
            intro N11 t11
            have sF := sF.trans t11
            have r5 := r5.sub t11
            have r6 := r6.sub t11
            simp (disch := omega) [tup2]
            refine spec_SortedWord q _ _ (by omega) ?_
            intro N12 t12
            have sF := sF.trans t12
            have r5 := r5.sub t12
            have r6 := r6.sub t12
            have pl := powR_len y 2
            have prw := powR_row (w := y) (k := 2)
            generalize powR y 2 = P5 at *
            generalize powC y 2 = C5 at *
            generalize alikeN z = c7 at *
            generalize alikeNC z = c8 at *
            generalize (if isWord q then srtL q else []) = c9 at *
            generalize wcode q = c10 at *
            simp (disch := omega) [tup2]
            refine rows5_does v5 v6 P5 P5 _ _ r5 r6 (by omega) (by omega) (fun r hr => by rw [prw r hr]; omega) (fun r hr => by rw [prw r hr]; omega) ?_
            rw [beq_self_eq_true]
            simp (disch := omega)
            exact ret_of (h _ sF)
    · have hc0b : (wwC zs == 0) = false := beq_eq_false_iff_ne.2 hc0
      have hwl : (wwL zs).length ≤ 0 := by unfold wwL; rw [if_neg hc0]; exact Nat.le_refl 0
      generalize wwL zs = L at *
      generalize wwC zs = c0 at *
      simp (disch := omega) [hc0b, hc0, tup2]
      refine words5_does v1 v2 L L _ _ r1 r2 (by omega) (by omega) ?_
      rw [beq_self_eq_true]
      simp (disch := omega)
      refine drawAPw_does v xs _ _ (hv.sub sF) (by omega) ?_
      intro x k N1 t1 hx hk1 hk2
      have sF := sF.trans t1
      simp (disch := omega)
      refine impl_AbelianPowers x k _ _ (by omega) ?_
      intro v3 rs3 N2 N3 ro3 o3
      have t3 := ro3.sub.trans o3.sub
      have r3 := rdSS_of ro3 o3
      have sF := sF.trans t3
      simp (disch := omega)
      refine spec_AbelianPowers x k _ _ (by omega) ?_
      intro v4 rs4 N4 N5 ro4 o4
      have t4 := ro4.sub.trans o4.sub
      have r4 := rdSS_of ro4 o4
      have r3 := r3.sub t4
      have sF := sF.trans t4
      clear ro3 ro4 o3 o4
      simp (disch := omega)
      refine impl_IsAbelianFree x k _ _ (by omega) ?_
      simp (disch := omega) [tup2]
      refine spec_IsAbelianFree x k _ _ (by omega) ?_
      have hprow : ∀ r ∈ powR x k, ∃ i m : Nat, r = [(i : Int), (m : Int)] ∧ isWord x = true ∧ i + m + m ≤ x.length ∧ counts (seg x (i + m) m) = counts (seg x i m) := fun r hr => pow_row hr
      have pl := powR_len x k
      have prw := powR_row (w := x) (k := k)
      have pe : (powR x k).isEmpty = ((powR x k).length == 0) := by cases powR x k <;> rfl
      generalize powR x k = P at *
      generalize hC : powC x k = C at *
      obtain ⟨rs, rd3, n3, row3⟩ := r3
      have r3 : RdSS N5 v3 P := ⟨rs, rd3, n3, row3⟩
      obtain ⟨a3, c3, rfl, ha3⟩ := rd3.opened
      rw [n3] at ha3 rd3 ⊢
      rw [n3] at r3
      simp (disch := omega) [tup2]
      refine rows5_does _ v4 P P _ _ r3 r4 (by omega) (by omega) (fun r hr => by rw [prw r hr]; omega) (fun r hr => by rw [prw r hr]; omega) ?_
      rw [beq_self_eq_true]
      by_cases hC0 : C = 0
      · rw [decide_eq_true hC0, Bool.true_and, pe]
        have hC0b : (C == 0) = true := by rw [hC0]; rfl
        have hpi : ((P.length : Int) == 0) = (P.length == 0) := by
          rw [Bool.eq_iff_iff, beq_iff_eq, beq_iff_eq]; omega
        generalize hE : (P.length == 0) = E at *
        simp (disch := omega) [hC0b, hpi]
        refine loop_to tab_ok [2, 34, 35, 36, 37, 38, 39, 40, 237, 238, 239, 240, 241, 242, 243, 244, 245, 246, 247, 248, 249, 250, 251, 252, 253, 254, 255, 256, 257, 258, 259, 260, 261, 262, 263, 264, 265, 266, 267, 268, 269, 270, 271, 272, 273, 274, 275, 276, 277, 278, 279, 280, 281, 282, 283, 284, 285, 286, 287, 288, 289, 290, 291, 292, 293, 294, 295, 296, 297, 298, 299, 300, 301, 302, 303, 304, 305, 306, 307, 308, 309, 310, 311, 312, 313] (fun i : Nat => [(34, .int .i64 i)]) (fun i N => Sub N5 N ∧ i ≤ P.length) (fun i => P.length - i) 0 (by kernel_rfl) (by simp (disch := omega)) ⟨Sub.refl _, Nat.zero_le _⟩ ?_
        rintro i N6 g ⟨sN, hi⟩
        by_cases hgo : i < P.length ∧ i < 12
        · obtain ⟨hlt, hl12⟩ := hgo
          have hltI : (i : Int) < (P.length : Nat) := by omega
          have hl12I : (i : Int) < 12 := by omega
          rcases ha3 with h0 | ⟨b3, o3, rfl, ha3⟩
          · omega
          obtain ⟨x3, hx3, rx3⟩ := row3 i _ (List.getElem?_eq_getElem hlt)
          have hg3 := ha3 i hlt
          rw [hx3] at hg3
          have hg3 := sub_getk hg3 sN
          obtain ⟨p, m, hpm, hxw, hpl, hcs⟩ := hprow _ (List.getElem_mem hlt)
          rw [hpm] at rx3
          have x60 := isWord_len hxw
          obtain ⟨fa, fb⟩ := fac_in (w := x) (i := p) (m := m) hxw (by omega)
          obtain ⟨fc, fd⟩ := fac_in (w := x) (i := p + m) (m := m) hxw (by omega)
          obtain ⟨al1, al2⟩ := alike_seg hxw hpl hcs
          have sl1 := seg_len (w := x) (a := p) (m := m) (by omega)
          have sl2 := seg_len (w := x) (a := p + m) (m := m) (by omega)
          obtain ⟨s, hs⟩ : ∃ s, s = p + m := ⟨_, rfl⟩
          rw [← hs] at fc fd al1 al2 sl2
          have epm : (p : Int) + (m : Int) = (s : Int) := by omega
          obtain ⟨ax, cx, rfl, hax⟩ := rx3.opened
          rw [ints_length] at hax hg3
          have hl2 : [(p : Int), (m : Int)].length = 2 := rfl
          rw [hl2] at hax hg3
          rcases hax with h0 | ⟨bx, ox, rfl, hax⟩
          · omega
          have hx0 := hax 0 (by omega)
          have hx1 := hax 1 (by omega)
          have e0 : (ints [(p : Int), (m : Int)])[0]? = some (.int .i64 p) := rfl
          have e1 : (ints [(p : Int), (m : Int)])[1]? = some (.int .i64 m) := rfl
          rw [e0, Nat.add_zero] at hx0
          rw [e1] at hx1
          have hx0 := sub_getk hx0 sN
          have hx1 := sub_getk hx1 sN
          simp (disch := omega) [hltI, hl12I, hg3]
          refine plays (lights [0, 1, 2, 3, 4, 5, 6, 7, 8, 9, 10, 11, 12] (.one 13 1 (lights [14, 15, 16, 17, 18] .fin))) tab_ok (by kernel_rfl) (by kernel_rfl) (by rfl) ?_
          simp (disch := omega) [hg3, hx0, hx1]
          refine impl_FactorAt x p m _ _ (by omega) (by omega) (by omega) ?_
          rw [fa, fb]
          intro N7 t7
          have hg3 := sub_getk hg3 t7
          have hx0 := sub_getk hx0 t7
          have hx1 := sub_getk hx1 t7
          simp (disch := omega) [tup2]
          refine ⟨t7, ?_⟩
          refine plays (lights [0, 1, 2, 3, 4, 5, 6, 7, 8, 9, 10, 11, 12, 13, 14, 15, 16, 17, 18, 19] (.one 20 1 (lights [21, 22, 23, 24, 25] .fin))) tab_ok (by kernel_rfl) (by kernel_rfl) (by rfl) ?_
          simp (disch := omega) [hg3, hx0, hx1, epm]
          refine impl_FactorAt x s m _ _ (by omega) (by omega) (by omega) ?_
          rw [fc, fd]
          intro N8 t8
          simp (disch := omega) [tup2]
          refine ⟨t8, ?_⟩
          refine impl_AreAlike _ _ _ _ (by omega) (by omega) ?_
          rw [al1, al2]
          simp (disch := omega) [tup2]
          exact Rnd.mk' (i + 1) (by omega) (by (repeat (first | exact km | refine kp rfl ?_ | refine km' rfl ?_))) (by simp (disch := omega)) ⟨(sN.trans t7).trans t8, by omega⟩
        · have hgoI : ¬ ((i : Int) < (P.length : Nat) ∧ (i : Int) < 12) := by omega
          have sF := sF.trans sN
          by_cases hlt : i < P.length
          · have hltI : (i : Int) < (P.length : Nat) := by omega
            have hl12I : ¬ (i : Int) < 12 := by omega
            simp (disch := omega) [hltI, hl12I]
            refine drawASq7_does v xs _ _ (hv.sub sF) (by omega) ?_
            intro y N1 t1 hy
            have sF := sF.trans t1
            simp (disch := omega)
            refine impl_AbelianSquares y _ _ (by omega) ?_
            intro v5 rs5 N5 N6 ro5 o5
            have t5 := ro5.sub.trans o5.sub
            have r5 := rdSS_of ro5 o5
            have sF := sF.trans t5
            simp (disch := omega)
            refine spec_AbelianSquares y _ _ (by omega) ?_
            intro v6 rs6 N7 N8 ro6 o6
            have t6 := ro6.sub.trans o6.sub
            have r6 := rdSS_of ro6 o6
            have r5 := r5.sub t6
            have sF := sF.trans t6
            simp (disch := omega)
            refine drawCAl_does v xs _ _ (hv.sub sF) (by omega) ?_
            intro z N9 t9 hz
            have sF := sF.trans t9
            have r5 := r5.sub t9
            have r6 := r6.sub t9
            clear ro5 ro6 o5 o6
            simp (disch := omega)
            refine impl_CountAlike z _ _ (by omega) ?_
            simp (disch := omega) [tup2]
            refine spec_CountAlike z _ _ (by omega) ?_
            simp (disch := omega) [tup2]
            refine drawSo_does v xs _ _ (hv.sub sF) (by omega) ?_
            intro q N10 t10 hq
            have sF := sF.trans t10
            have r5 := r5.sub t10
            have r6 := r6.sub t10
            simp (disch := omega)
            refine impl_SortedWord q _ _ (by omega) ?_
            intro N11 t11
            have sF := sF.trans t11
            have r5 := r5.sub t11
            have r6 := r6.sub t11
            simp (disch := omega) [tup2]
            refine spec_SortedWord q _ _ (by omega) ?_
            intro N12 t12
            have sF := sF.trans t12
            have r5 := r5.sub t12
            have r6 := r6.sub t12
            have pl := powR_len y 2
            have prw := powR_row (w := y) (k := 2)
            generalize powR y 2 = P5 at *
            generalize powC y 2 = C5 at *
            generalize alikeN z = c7 at *
            generalize alikeNC z = c8 at *
            generalize (if isWord q then srtL q else []) = c9 at *
            generalize wcode q = c10 at *
            simp (disch := omega) [tup2]
            refine rows5_does v5 v6 P5 P5 _ _ r5 r6 (by omega) (by omega) (fun r hr => by rw [prw r hr]; omega) (fun r hr => by rw [prw r hr]; omega) ?_
            rw [beq_self_eq_true]
            simp (disch := omega)
            exact ret_of (h _ sF)
          · have hltI : ¬ (i : Int) < (P.length : Nat) := by omega
            simp (disch := omega) [hltI]
            refine drawASq7_does v xs _ _ (hv.sub sF) (by omega) ?_
            intro y N1 t1 hy
            have sF := sF.trans t1
            simp (disch := omega)
            refine impl_AbelianSquares y _ _ (by omega) ?_
            intro v5 rs5 N5 N6 ro5 o5
            have t5 := ro5.sub.trans o5.sub
            have r5 := rdSS_of ro5 o5
            have sF := sF.trans t5
            simp (disch := omega)
            refine spec_AbelianSquares y _ _ (by omega) ?_
            intro v6 rs6 N7 N8 ro6 o6
            have t6 := ro6.sub.trans o6.sub
            have r6 := rdSS_of ro6 o6
            have r5 := r5.sub t6
            have sF := sF.trans t6
            simp (disch := omega)
            refine drawCAl_does v xs _ _ (hv.sub sF) (by omega) ?_
            intro z N9 t9 hz
            have sF := sF.trans t9
            have r5 := r5.sub t9
            have r6 := r6.sub t9
            clear ro5 ro6 o5 o6
            simp (disch := omega)
            refine impl_CountAlike z _ _ (by omega) ?_
            simp (disch := omega) [tup2]
            refine spec_CountAlike z _ _ (by omega) ?_
            simp (disch := omega) [tup2]
            refine drawSo_does v xs _ _ (hv.sub sF) (by omega) ?_
            intro q N10 t10 hq
            have sF := sF.trans t10
            have r5 := r5.sub t10
            have r6 := r6.sub t10
            simp (disch := omega)
            refine impl_SortedWord q _ _ (by omega) ?_
            intro N11 t11
            have sF := sF.trans t11
            have r5 := r5.sub t11
            have r6 := r6.sub t11
            simp (disch := omega) [tup2]
            refine spec_SortedWord q _ _ (by omega) ?_
            intro N12 t12
            have sF := sF.trans t12
            have r5 := r5.sub t12
            have r6 := r6.sub t12
            have pl := powR_len y 2
            have prw := powR_row (w := y) (k := 2)
            generalize powR y 2 = P5 at *
            generalize powC y 2 = C5 at *
            generalize alikeN z = c7 at *
            generalize alikeNC z = c8 at *
            generalize (if isWord q then srtL q else []) = c9 at *
            generalize wcode q = c10 at *
            simp (disch := omega) [tup2]
            refine rows5_does v5 v6 P5 P5 _ _ r5 r6 (by omega) (by omega) (fun r hr => by rw [prw r hr]; omega) (fun r hr => by rw [prw r hr]; omega) ?_
            rw [beq_self_eq_true]
            simp (disch := omega)
            exact ret_of (h _ sF)
      · rw [decide_eq_false hC0, Bool.false_and]
        have hC0b : (C == 0) = false := beq_eq_false_iff_ne.2 hC0
        simp (disch := omega) [hC0b]
        refine loop_to tab_ok [2, 34, 35, 36, 37, 38, 39, 40, 237, 238, 239, 240, 241, 242, 243, 244, 245, 246, 247, 248, 249, 250, 251, 252, 253, 254, 255, 256, 257, 258, 259, 260, 261, 262, 263, 264, 265, 266, 267, 268, 269, 270, 271, 272, 273, 274, 275, 276, 277, 278, 279, 280, 281, 282, 283, 284, 285, 286, 287, 288, 289, 290, 291, 292, 293, 294, 295, 296, 297, 298, 299, 300, 301, 302, 303, 304, 305, 306, 307, 308, 309, 310, 311, 312, 313] (fun i : Nat => [(34, .int .i64 i)]) (fun i N => Sub N5 N ∧ i ≤ P.length) (fun i => P.length - i) 0 (by kernel_rfl) (by simp (disch := omega)) ⟨Sub.refl _, Nat.zero_le _⟩ ?_
        rintro i N6 g ⟨sN, hi⟩
        by_cases hgo : i < P.length ∧ i < 12
        · obtain ⟨hlt, hl12⟩ := hgo
          have hltI : (i : Int) < (P.length : Nat) := by omega
          have hl12I : (i : Int) < 12 := by omega
          rcases ha3 with h0 | ⟨b3, o3, rfl, ha3⟩
          · omega
          obtain ⟨x3, hx3, rx3⟩ := row3 i _ (List.getElem?_eq_getElem hlt)
          have hg3 := ha3 i hlt
          rw [hx3] at hg3
          have hg3 := sub_getk hg3 sN
          obtain ⟨p, m, hpm, hxw, hpl, hcs⟩ := hprow _ (List.getElem_mem hlt)
          rw [hpm] at rx3
          have x60 := isWord_len hxw
          obtain ⟨fa, fb⟩ := fac_in (w := x) (i := p) (m := m) hxw (by omega)
          obtain ⟨fc, fd⟩ := fac_in (w := x) (i := p + m) (m := m) hxw (by omega)
          obtain ⟨al1, al2⟩ := alike_seg hxw hpl hcs
          have sl1 := seg_len (w := x) (a := p) (m := m) (by omega)
          have sl2 := seg_len (w := x) (a := p + m) (m := m) (by omega)
          obtain ⟨s, hs⟩ : ∃ s, s = p + m := ⟨_, rfl⟩
          rw [← hs] at fc fd al1 al2 sl2
          have epm : (p : Int) + (m : Int) = (s : Int) := by omega
          obtain ⟨ax, cx, rfl, hax⟩ := rx3.opened
          rw [ints_length] at hax hg3
          have hl2 : [(p : Int), (m : Int)].length = 2 := rfl
          rw [hl2] at hax hg3
          rcases hax with h0 | ⟨bx, ox, rfl, hax⟩
          · omega
          have hx0 := hax 0 (by omega)
          have hx1 := hax 1 (by omega)
          have e0 : (ints [(p : Int), (m : Int)])[0]? = some (.int .i64 p) := rfl
          have e1 : (ints [(p : Int), (m : Int)])[1]? = some (.int .i64 m) := rfl
          rw [e0, Nat.add_zero] at hx0
          rw [e1] at hx1
          have hx0 := sub_getk hx0 sN
          have hx1 := sub_getk hx1 sN
          simp (disch := omega) [hltI, hl12I, hg3]
          refine plays (lights [0, 1, 2, 3, 4, 5, 6, 7, 8, 9, 10, 11, 12] (.one 13 1 (lights [14, 15, 16, 17, 18] .fin))) tab_ok (by kernel_rfl) (by kernel_rfl) (by rfl) ?_
          simp (disch := omega) [hg3, hx0, hx1]
          refine impl_FactorAt x p m _ _ (by omega) (by omega) (by omega) ?_
          rw [fa, fb]
          intro N7 t7
          have hg3 := sub_getk hg3 t7
          have hx0 := sub_getk hx0 t7
          have hx1 := sub_getk hx1 t7
          simp (disch := omega) [tup2]
          refine ⟨t7, ?_⟩
          refine plays (lights [0, 1, 2, 3, 4, 5, 6, 7, 8, 9, 10, 11, 12, 13, 14, 15, 16, 17, 18, 19] (.one 20 1 (lights [21, 22, 23, 24, 25] .fin))) tab_ok (by kernel_rfl) (by kernel_rfl) (by rfl) ?_
          simp (disch := omega) [hg3, hx0, hx1, epm]
          refine impl_FactorAt x s m _ _ (by omega) (by omega) (by omega) ?_
          rw [fc, fd]
          intro N8 t8
          simp (disch := omega) [tup2]
          refine ⟨t8, ?_⟩
          refine impl_AreAlike _ _ _ _ (by omega) (by omega) ?_
          rw [al1, al2]
          simp (disch := omega) [tup2]
          exact Rnd.mk' (i + 1) (by omega) (by (repeat (first | exact km | refine kp rfl ?_ | refine km' rfl ?_))) (by simp (disch := omega)) ⟨(sN.trans t7).trans t8, by omega⟩
        · have hgoI : ¬ ((i : Int) < (P.length : Nat) ∧ (i : Int) < 12) := by omega
          have sF := sF.trans sN
          by_cases hlt : i < P.length
          · have hltI : (i : Int) < (P.length : Nat) := by omega
            have hl12I : ¬ (i : Int) < 12 := by omega
            simp (disch := omega) [hltI, hl12I]
            refine drawASq7_does v xs _ _ (hv.sub sF) (by omega) ?_
            intro y N1 t1 hy
            have sF := sF.trans t1
            simp (disch := omega)
            refine impl_AbelianSquares y _ _ (by omega) ?_
            intro v5 rs5 N5 N6 ro5 o5
            have t5 := ro5.sub.trans o5.sub
            have r5 := rdSS_of ro5 o5
            have sF := sF.trans t5
            simp (disch := omega)
            refine spec_AbelianSquares y _ _ (by omega) ?_
            intro v6 rs6 N7 N8 ro6 o6
            have t6 := ro6.sub.trans o6.sub
            have r6 := rdSS_of ro6 o6
            have r5 := r5.sub t6
            have sF := sF.trans t6
            simp (disch := omega)
            refine drawCAl_does v xs _ _ (hv.sub sF) (by omega) ?_
            intro z N9 t9 hz
            have sF := sF.trans t9
            have r5 := r5.sub t9
            have r6 := r6.sub t9
            clear ro5 ro6 o5 o6
            simp (disch := omega)
            refine impl_CountAlike z _ _ (by omega) ?_
            simp (disch := omega) [tup2]
            refine spec_CountAlike z _ _ (by omega) ?_
            simp (disch := omega) [tup2]
            refine drawSo_does v xs _ _ (hv.sub sF) (by omega) ?_
            intro q N10 t10 hq
            have sF := sF.trans t10
            have r5 := r5.sub t10
            have r6 := r6.sub t10
            simp (disch := omega)
            refine impl_SortedWord q _ _ (by omega) ?_
            intro N11 t11
            have sF := sF.trans t11
            have r5 := r5.sub t11
            have r6 := r6.sub t11
            simp (disch := omega) [tup2]
            refine spec_SortedWord q _ _ (by omega) ?_
            intro N12 t12
            have sF := sF.trans t12
            have r5 := r5.sub t12
            have r6 := r6.sub t12
            have pl := powR_len y 2
            have prw := powR_row (w := y) (k := 2)
            generalize powR y 2 = P5 at *
            generalize powC y 2 = C5 at *
            generalize alikeN z = c7 at *
            generalize alikeNC z = c8 at *
            generalize (if isWord q then srtL q else []) = c9 at *
            generalize wcode q = c10 at *
            simp (disch := omega) [tup2]
            refine rows5_does v5 v6 P5 P5 _ _ r5 r6 (by omega) (by omega) (fun r hr => by rw [prw r hr]; omega) (fun r hr => by rw [prw r hr]; omega) ?_
            rw [beq_self_eq_true]
            simp (disch := omega)
            exact ret_of (h _ sF)
          · have hltI : ¬ (i : Int) < (P.length : Nat) := by omega
            simp (disch := omega) [hltI]
            refine drawASq7_does v xs _ _ (hv.sub sF) (by omega) ?_
            intro y N1 t1 hy
            have sF := sF.trans t1
            simp (disch := omega)
            refine impl_AbelianSquares y _ _ (by omega) ?_
            intro v5 rs5 N5 N6 ro5 o5
            have t5 := ro5.sub.trans o5.sub
            have r5 := rdSS_of ro5 o5
            have sF := sF.trans t5
            simp (disch := omega)
            refine spec_AbelianSquares y _ _ (by omega) ?_
            intro v6 rs6 N7 N8 ro6 o6
            have t6 := ro6.sub.trans o6.sub
            have r6 := rdSS_of ro6 o6
            have r5 := r5.sub t6
            have sF := sF.trans t6
            simp (disch := omega)
            refine drawCAl_does v xs _ _ (hv.sub sF) (by omega) ?_
            intro z N9 t9 hz
            have sF := sF.trans t9
            have r5 := r5.sub t9
            have r6 := r6.sub t9
            clear ro5 ro6 o5 o6
            simp (disch := omega)
            refine impl_CountAlike z _ _ (by omega) ?_
            simp (disch := omega) [tup2]
            refine spec_CountAlike z _ _ (by omega) ?_
            simp (disch := omega) [tup2]
            refine drawSo_does v xs _ _ (hv.sub sF) (by omega) ?_
            intro q N10 t10 hq
            have sF := sF.trans t10
            have r5 := r5.sub t10
            have r6 := r6.sub t10
            simp (disch := omega)
            refine impl_SortedWord q _ _ (by omega) ?_
            intro N11 t11
            have sF := sF.trans t11
            have r5 := r5.sub t11
            have r6 := r6.sub t11
            simp (disch := omega) [tup2]
            refine spec_SortedWord q _ _ (by omega) ?_
            intro N12 t12
            have sF := sF.trans t12
            have r5 := r5.sub t12
            have r6 := r6.sub t12
            have pl := powR_len y 2
            have prw := powR_row (w := y) (k := 2)
            generalize powR y 2 = P5 at *
            generalize powC y 2 = C5 at *
            generalize alikeN z = c7 at *
            generalize alikeNC z = c8 at *
            generalize (if isWord q then srtL q else []) = c9 at *
            generalize wcode q = c10 at *
            simp (disch := omega) [tup2]
            refine rows5_does v5 v6 P5 P5 _ _ r5 r6 (by omega) (by omega) (fun r hr => by rw [prw r hr]; omega) (fun r hr => by rw [prw r hr]; omega) ?_
            rw [beq_self_eq_true]
            simp (disch := omega)
            exact ret_of (h _ sF)
end Go.Proofs.YthpcojnpiggaiaaGreat

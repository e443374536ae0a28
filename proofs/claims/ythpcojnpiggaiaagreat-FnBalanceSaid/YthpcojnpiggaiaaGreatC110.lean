/- Contracts: bytes sorted. -/
import Derived.Test.YthpcojnpiggaiaaGreatCN
import Derived.Test.YthpcojnpiggaiaaGreatCO
import Derived.Test.YthpcojnpiggaiaaGreatM30
namespace Go.Proofs.YthpcojnpiggaiaaGreat
open Go
set_option linter.unusedSimpArgs false
set_option linter.unusedVariables false

set_option maxRecDepth 8000 in
set_option maxHeartbeats 8000000 in
theorem pdq_does (b c n : Nat) : ∀ (lo hi limit : Nat) (L : List UInt8) (M : Mem) (R : Value → Mem → Prop), hi - lo = n → M b = some (.cells true (bytesV L) c) → L.length ≤ c → L.length ≤ 64 → lo ≤ hi → hi ≤ L.length → limit ≤ 100 → (1 ≤ lo → ∀ y, lo ≤ y → y < hi → K L (lo - 1) ≤ K L y) →
    (∀ L' M', SP lo hi L L' → SS lo hi L' → Sub (M.put b (.cells true (bytesV L') c)) M' → R (.tuple #[]) M') → Does Tryz.prog 132 [.slice (some ⟨b, 0, none⟩) L.length c, .int .i64 lo, .int .i64 hi, .int .i64 limit] M R := by
  induction n using Nat.strongRecOn with
  | ind n ih =>
  intro lo hi limit L M R hn hM hc hl hlo hhi hlim hpre h
  refine does_fn tab_ok Tryz.func132 rfl (by kernel_rfl) (by kernel_rfl) Tryz.ntmps132 Tryz.results132 rfl ?_
  simp (disch := omega)
  refine loop_to tab_ok [1, 2, 3, 8, 9, 10, 11, 12, 13, 14, 15, 16, 17, 18, 19, 20, 21, 22, 23, 24, 25, 26, 27, 28, 29, 30, 31, 32, 33, 34, 35, 36, 37, 38, 39, 40, 41, 42, 43, 44, 45, 46, 47, 48, 49, 50, 51, 52, 53, 54, 55, 56, 57, 58, 59, 60, 61, 62, 63, 64, 65, 66, 67, 68, 69, 70, 71, 72, 73, 74, 75, 76, 77, 78, 79, 80, 81, 82, 83, 84, 85, 86, 87, 88, 89, 90, 91, 92, 93, 94, 95, 96, 97, 98, 99, 100, 101, 102, 103, 104, 105, 106, 107, 108, 109, 110, 111, 112, 113, 114, 115, 116, 117, 118, 119, 120, 121, 122, 123, 124, 125, 126, 127, 128, 129, 130, 131, 132, 133] (fun x : Nat × Nat × Nat × List UInt8 × Bool × Bool => [(1, .int .i64 (x.1 : Nat)), (2, .int .i64 (x.2.1 : Nat)), (3, .int .i64 (x.2.2.1 : Nat)), (8, .bool x.2.2.2.2.1), (9, .bool x.2.2.2.2.2)]) (fun x N => Sub (M.put b (.cells true (bytesV x.2.2.2.1) c)) N ∧ SP lo hi L x.2.2.2.1 ∧ Mid lo hi x.1 x.2.1 x.2.2.2.1 ∧ x.2.2.1 ≤ 100) (fun x => x.2.1 - x.1) (lo, hi, limit, L, true, true) (by kernel_rfl) (by simp (disch := omega)) ⟨by simp only; rw [put_self hM]; exact Sub.refl _, SP.refl _ _ _, ⟨Nat.le_refl _, hlo, Nat.le_refl _, fun x y h1 h2 h3 h4 => by simp only at *; omega, fun x y h1 h2 h3 h4 => by simp only at *; omega, SS.one _ (by simp only; omega), SS.one _ (by simp only; omega), hpre⟩, hlim⟩ ?_
  rintro ⟨a, e, lc, Lc, wb, wp⟩ Nc g ⟨sc, hspc, hmc, hlc2⟩
  simp only at sc hspc hmc hlc2
  have hlc := hspc.len
  have m1 := hmc.l1
  have m2 := hmc.l2
  have m3 := hmc.l3
  have kc := sc _ _ (put_same _ _ _)
  obtain ⟨q, hq⟩ : ∃ q : Nat, q = (e - a) / 8 := ⟨_, rfl⟩
  have hqI : ((e : Int) - a).tdiv 8 = q := by
    have : (e : Int) - a = ((e - a : Nat) : Int) := by omega
    rw [this, hq]; rfl
  by_cases h12 : e - a ≤ 12
  · have h12I : (e : Int) - a ≤ 12 := by omega
    simp (disch := omega) [h12I]
    rw [show L.length = Lc.length by omega]
    refine insertB_does b c a e Lc _ _ kc (by omega) (by omega) m2 (by omega) ?_
    intro L' q1 q2
    simp (disch := omega)
    exact ret_of (h L' _ (hspc.trans (q1.mono m1 m3)) ((hmc.sp q1).fin q2) (sub_other sc))
  · have h12I : ¬ (e : Int) - a ≤ 12 := by omega
    by_cases hl0 : lc = 0
    · have hl0I : (lc : Int) = 0 := by omega
      simp (disch := omega) [h12I, hl0, hl0I]
      rw [show L.length = Lc.length by omega]
      refine heapSort_does b c a e Lc _ _ kc (by omega) (by omega) (by omega) (by omega) ?_
      intro L' q1 q2
      simp (disch := omega)
      exact ret_of (h L' _ (hspc.trans (q1.mono m1 m3)) ((hmc.sp q1).fin q2) (sub_other sc))
    · have hl0I : ¬ (lc : Int) = 0 := by omega
      cases wb
      · simp (disch := omega) [h12I, hl0, hl0I]
        rw [show L.length = Lc.length by omega]
        refine breakP_does b c a e Lc _ _ kc (by omega) (by omega) (by omega) (by omega) ?_
        intro L' N' q1 q2
        rw [show Lc.length = L.length by omega]
        have hmc := hmc.sp q1
        have hspc := hspc.trans (q1.mono m1 m3)
        have sc := (sub_other (B' := .cells true (bytesV L') c) sc).trans q2
        clear kc hlc
        obtain ⟨lc', hlc'⟩ : ∃ lc' : Nat, lc' = lc - 1 := ⟨_, rfl⟩
        have hlcI : (lc : Int) - 1 = lc' := by omega
        have hlc2 : lc' ≤ 100 := by omega
        simp (disch := omega) [hlcI]
        generalize lc' = lc at *
        generalize N' = Nc at *
        generalize L' = Lc at *
        have kc := sc _ _ (put_same _ _ _)
        have hlc := hspc.len
        rw [show L.length = Lc.length by omega]
        refine choosePivot_does b c a e Lc _ _ kc (by omega) (by omega) (by omega) (by omega) ?_
        intro pc t N9 hp1 hp2 ht s9
        rw [show Lc.length = L.length by omega]
        have sc := sc.trans s9
        clear kc
        generalize N9 = Nc at *
        rcases ht with rfl | rfl | rfl
        · simp (disch := omega)
          clear hlc
          have hlc := hspc.len
          have kc := sc _ _ (put_same _ _ _)
          have xp := getK kc (i := pc) (by omega)
          by_cases ha0 : 0 < a
          · have ha0I : (0 : Int) < a := by omega
            obtain ⟨a1, ha1⟩ : ∃ a1 : Nat, a = a1 + 1 := ⟨a - 1, by omega⟩
            have ha1I : (a : Int) - 1 = a1 := by omega
            have xa := getK kc (i := a1) (by omega)
            refine draw_to tab_ok (by kernel_rfl) (by kernel_rfl) (by rfl) ?_
            simp (disch := omega) [ha0, ha0I, ha1I, xp, xa]
            refine vQCall_at (a := []) (c := []) (lessB_does _ _ _ _ ⟨rfl, rfl⟩) ?_
            by_cases hk : K Lc a1 < K Lc pc
            · rw [decide_eq_true hk]
              simp (disch := omega)
              rw [show L.length = Lc.length by omega]
              refine partition_does b c a e pc Lc _ _ kc (by omega) (by omega) (by omega) (by omega) hp1 hp2 ?_
              intro L' m tt q1 q2 q3 q4 q5
              rw [show Lc.length = L.length by omega]
              have hm' := hmc.sp q3
              have hsp' := hspc.trans (q3.mono hmc.l1 hmc.l3)
              have sc' := sub_other (B' := .cells true (bytesV L') c) sc
              have hl' := hsp'.len
              have k' := sc' _ _ (put_same _ _ _)
              generalize Nc.put b (.cells true (bytesV L') c) = N' at *
              by_cases hlr : m - a < e - m
              · have hlrI : (m : Int) - a < (e : Int) - m := by omega
                by_cases hwb : q ≤ m - a
                · have hwbI : (q : Int) ≤ (m : Int) - a := by omega
                  simp (disch := omega) [hqI, hlrI, hwbI]
                  rw [show L.length = L'.length by omega]
                  refine ih (m - a) (by omega) a m lc L' N' _ rfl k' (by omega) (by omega) (by omega) (by omega) hlc2 (fun h1 y h2 h3 => hm'.pa h1 y h2 (by have := hm'.l3; omega)) ?_
                  intro L'' N'' r1 r2 r3
                  rw [show L'.length = L.length by omega]
                  have hs2 := SP.left r1 q4 q5
                  simp (disch := omega)
                  refine Rnd.mk' (m + 1, e, lc, L'', true, tt) (by simp only; omega) (by (repeat (first | exact km | refine kp rfl ?_ | refine km' rfl ?_))) (by simp (disch := omega)) ⟨(sub_other sc').trans r3, hsp'.trans (r1.mono hm'.l1 (by have := hm'.l3; omega)), (hm'.sp (r1.mono (Nat.le_refl _) (by omega))).goR q1 q2 r2 hs2.1 hs2.2, hlc2⟩
                · have hwbI : ¬ (q : Int) ≤ (m : Int) - a := by omega
                  simp (disch := omega) [hqI, hlrI, hwbI]
                  rw [show L.length = L'.length by omega]
                  refine ih (m - a) (by omega) a m lc L' N' _ rfl k' (by omega) (by omega) (by omega) (by omega) hlc2 (fun h1 y h2 h3 => hm'.pa h1 y h2 (by have := hm'.l3; omega)) ?_
                  intro L'' N'' r1 r2 r3
                  rw [show L'.length = L.length by omega]
                  have hs2 := SP.left r1 q4 q5
                  simp (disch := omega)
                  refine Rnd.mk' (m + 1, e, lc, L'', false, tt) (by simp only; omega) (by (repeat (first | exact km | refine kp rfl ?_ | refine km' rfl ?_))) (by simp (disch := omega)) ⟨(sub_other sc').trans r3, hsp'.trans (r1.mono hm'.l1 (by have := hm'.l3; omega)), (hm'.sp (r1.mono (Nat.le_refl _) (by omega))).goR q1 q2 r2 hs2.1 hs2.2, hlc2⟩
              · have hlrI : ¬ (m : Int) - a < (e : Int) - m := by omega
                have hmp : (m : Int) + 1 = ((m + 1 : Nat) : Int) := by omega
                by_cases hwb : q ≤ e - m
                · have hwbI : (q : Int) ≤ (e : Int) - m := by omega
                  simp (disch := omega) [hqI, hlrI, hwbI]
                  rw [hmp, show L.length = L'.length by omega]
                  refine ih (e - (m + 1)) (by omega) (m + 1) e lc L' N' _ rfl k' (by omega) (by omega) (by omega) (by omega) hlc2 (fun h1 y h2 h3 => q5 y (by omega) h3) ?_
                  intro L'' N'' r1 r2 r3
                  rw [show L'.length = L.length by omega]
                  have hs2 := SP.right r1 q4 q5
                  simp (disch := omega)
                  refine Rnd.mk' (a, m, lc, L'', true, tt) (by simp only; omega) (by (repeat (first | exact km | refine kp rfl ?_ | refine km' rfl ?_))) (by simp (disch := omega)) ⟨(sub_other sc').trans r3, hsp'.trans (r1.mono (by have := hm'.l1; omega) hm'.l3), (hm'.sp (r1.mono (by omega) (Nat.le_refl _))).goL q1 q2 r2 hs2.1 hs2.2, hlc2⟩
                · have hwbI : ¬ (q : Int) ≤ (e : Int) - m := by omega
                  simp (disch := omega) [hqI, hlrI, hwbI]
                  rw [hmp, show L.length = L'.length by omega]
                  refine ih (e - (m + 1)) (by omega) (m + 1) e lc L' N' _ rfl k' (by omega) (by omega) (by omega) (by omega) hlc2 (fun h1 y h2 h3 => q5 y (by omega) h3) ?_
                  intro L'' N'' r1 r2 r3
                  rw [show L'.length = L.length by omega]
                  have hs2 := SP.right r1 q4 q5
                  simp (disch := omega)
                  refine Rnd.mk' (a, m, lc, L'', false, tt) (by simp only; omega) (by (repeat (first | exact km | refine kp rfl ?_ | refine km' rfl ?_))) (by simp (disch := omega)) ⟨(sub_other sc').trans r3, hsp'.trans (r1.mono (by have := hm'.l1; omega) hm'.l3), (hm'.sp (r1.mono (by omega) (Nat.le_refl _))).goL q1 q2 r2 hs2.1 hs2.2, hlc2⟩
            · rw [decide_eq_false hk]
              simp (disch := omega)
              rw [show L.length = Lc.length by omega]
              refine partitionEq_does b c a e pc Lc _ _ kc (by omega) (by omega) (by omega) (by omega) hp1 hp2 ?_
              intro L' m q1 q2 q3 q4 q5
              rw [show Lc.length = L.length by omega]
              have hm' := hmc.sp q3
              have hge : ∀ y, a ≤ y → y < e → K Lc pc ≤ K L' y := q3.inn (fun v => K Lc pc ≤ v) fun i b1 b2 => by
                have := hmc.pa (by omega) i b1 (by have := hmc.l3; omega)
                rw [show a - 1 = a1 by omega] at this
                omega
              simp (disch := omega)
              refine Rnd.mk' (m, e, lc, L', false, wp) (by simp only; omega) (by (repeat (first | exact km | refine kp rfl ?_ | refine km' rfl ?_))) (by simp (disch := omega)) ⟨sub_other sc, hspc.trans (q3.mono hmc.l1 hmc.l3), hm'.goE q1 q2 q4 q5 hge, hlc2⟩
          · have ha0I : ¬ (0 : Int) < a := by omega
            refine draw_to tab_ok (by kernel_rfl) (by kernel_rfl) (by rfl) ?_
            simp (disch := omega) [ha0, ha0I, undef]
            rw [show L.length = Lc.length by omega]
            refine partition_does b c a e pc Lc _ _ kc (by omega) (by omega) (by omega) (by omega) hp1 hp2 ?_
            intro L' m tt q1 q2 q3 q4 q5
            rw [show Lc.length = L.length by omega]
            have hm' := hmc.sp q3
            have hsp' := hspc.trans (q3.mono hmc.l1 hmc.l3)
            have sc' := sub_other (B' := .cells true (bytesV L') c) sc
            have hl' := hsp'.len
            have k' := sc' _ _ (put_same _ _ _)
            generalize Nc.put b (.cells true (bytesV L') c) = N' at *
            by_cases hlr : m - a < e - m
            · have hlrI : (m : Int) - a < (e : Int) - m := by omega
              by_cases hwb : q ≤ m - a
              · have hwbI : (q : Int) ≤ (m : Int) - a := by omega
                simp (disch := omega) [hqI, hlrI, hwbI]
                rw [show L.length = L'.length by omega]
                refine ih (m - a) (by omega) a m lc L' N' _ rfl k' (by omega) (by omega) (by omega) (by omega) hlc2 (fun h1 y h2 h3 => hm'.pa h1 y h2 (by have := hm'.l3; omega)) ?_
                intro L'' N'' r1 r2 r3
                rw [show L'.length = L.length by omega]
                have hs2 := SP.left r1 q4 q5
                simp (disch := omega)
                refine Rnd.mk' (m + 1, e, lc, L'', true, tt) (by simp only; omega) (by (repeat (first | exact km | refine kp rfl ?_ | refine km' rfl ?_))) (by simp (disch := omega)) ⟨(sub_other sc').trans r3, hsp'.trans (r1.mono hm'.l1 (by have := hm'.l3; omega)), (hm'.sp (r1.mono (Nat.le_refl _) (by omega))).goR q1 q2 r2 hs2.1 hs2.2, hlc2⟩
              · have hwbI : ¬ (q : Int) ≤ (m : Int) - a := by omega
                simp (disch := omega) [hqI, hlrI, hwbI]
                rw [show L.length = L'.length by omega]
                refine ih (m - a) (by omega) a m lc L' N' _ rfl k' (by omega) (by omega) (by omega) (by omega) hlc2 (fun h1 y h2 h3 => hm'.pa h1 y h2 (by have := hm'.l3; omega)) ?_
                intro L'' N'' r1 r2 r3
                rw [show L'.length = L.length by omega]
                have hs2 := SP.left r1 q4 q5
                simp (disch := omega)
                refine Rnd.mk' (m + 1, e, lc, L'', false, tt) (by simp only; omega) (by (repeat (first | exact km | refine kp rfl ?_ | refine km' rfl ?_))) (by simp (disch := omega)) ⟨(sub_other sc').trans r3, hsp'.trans (r1.mono hm'.l1 (by have := hm'.l3; omega)), (hm'.sp (r1.mono (Nat.le_refl _) (by omega))).goR q1 q2 r2 hs2.1 hs2.2, hlc2⟩
            · have hlrI : ¬ (m : Int) - a < (e : Int) - m := by omega
              have hmp : (m : Int) + 1 = ((m + 1 : Nat) : Int) := by omega
              by_cases hwb : q ≤ e - m
              · have hwbI : (q : Int) ≤ (e : Int) - m := by omega
                simp (disch := omega) [hqI, hlrI, hwbI]
                rw [hmp, show L.length = L'.length by omega]
                refine ih (e - (m + 1)) (by omega) (m + 1) e lc L' N' _ rfl k' (by omega) (by omega) (by omega) (by omega) hlc2 (fun h1 y h2 h3 => q5 y (by omega) h3) ?_
                intro L'' N'' r1 r2 r3
                rw [show L'.length = L.length by omega]
                have hs2 := SP.right r1 q4 q5
                simp (disch := omega)
                refine Rnd.mk' (a, m, lc, L'', true, tt) (by simp only; omega) (by (repeat (first | exact km | refine kp rfl ?_ | refine km' rfl ?_))) (by simp (disch := omega)) ⟨(sub_other sc').trans r3, hsp'.trans (r1.mono (by have := hm'.l1; omega) hm'.l3), (hm'.sp (r1.mono (by omega) (Nat.le_refl _))).goL q1 q2 r2 hs2.1 hs2.2, hlc2⟩
              · have hwbI : ¬ (q : Int) ≤ (e : Int) - m := by omega
                simp (disch := omega) [hqI, hlrI, hwbI]
                rw [hmp, show L.length = L'.length by omega]
                refine ih (e - (m + 1)) (by omega) (m + 1) e lc L' N' _ rfl k' (by omega) (by omega) (by omega) (by omega) hlc2 (fun h1 y h2 h3 => q5 y (by omega) h3) ?_
                intro L'' N'' r1 r2 r3
                rw [show L'.length = L.length by omega]
                have hs2 := SP.right r1 q4 q5
                simp (disch := omega)
                refine Rnd.mk' (a, m, lc, L'', false, tt) (by simp only; omega) (by (repeat (first | exact km | refine kp rfl ?_ | refine km' rfl ?_))) (by simp (disch := omega)) ⟨(sub_other sc').trans r3, hsp'.trans (r1.mono (by have := hm'.l1; omega) hm'.l3), (hm'.sp (r1.mono (by omega) (Nat.le_refl _))).goL q1 q2 r2 hs2.1 hs2.2, hlc2⟩
        · simp (disch := omega)
          clear hlc
          have hlc := hspc.len
          have kc := sc _ _ (put_same _ _ _)
          have xp := getK kc (i := pc) (by omega)
          by_cases ha0 : 0 < a
          · have ha0I : (0 : Int) < a := by omega
            obtain ⟨a1, ha1⟩ : ∃ a1 : Nat, a = a1 + 1 := ⟨a - 1, by omega⟩
            have ha1I : (a : Int) - 1 = a1 := by omega
            have xa := getK kc (i := a1) (by omega)
            refine draw_to tab_ok (by kernel_rfl) (by kernel_rfl) (by rfl) ?_
            simp (disch := omega) [ha0, ha0I, ha1I, xp, xa]
            refine vQCall_at (a := []) (c := []) (lessB_does _ _ _ _ ⟨rfl, rfl⟩) ?_
            by_cases hk : K Lc a1 < K Lc pc
            · rw [decide_eq_true hk]
              simp (disch := omega)
              rw [show L.length = Lc.length by omega]
              refine partition_does b c a e pc Lc _ _ kc (by omega) (by omega) (by omega) (by omega) hp1 hp2 ?_
              intro L' m tt q1 q2 q3 q4 q5
              rw [show Lc.length = L.length by omega]
              have hm' := hmc.sp q3
              have hsp' := hspc.trans (q3.mono hmc.l1 hmc.l3)
              have sc' := sub_other (B' := .cells true (bytesV L') c) sc
              have hl' := hsp'.len
              have k' := sc' _ _ (put_same _ _ _)
              generalize Nc.put b (.cells true (bytesV L') c) = N' at *
              by_cases hlr : m - a < e - m
              · have hlrI : (m : Int) - a < (e : Int) - m := by omega
                by_cases hwb : q ≤ m - a
                · have hwbI : (q : Int) ≤ (m : Int) - a := by omega
                  simp (disch := omega) [hqI, hlrI, hwbI]
                  rw [show L.length = L'.length by omega]
                  refine ih (m - a) (by omega) a m lc L' N' _ rfl k' (by omega) (by omega) (by omega) (by omega) hlc2 (fun h1 y h2 h3 => hm'.pa h1 y h2 (by have := hm'.l3; omega)) ?_
                  intro L'' N'' r1 r2 r3
                  rw [show L'.length = L.length by omega]
                  have hs2 := SP.left r1 q4 q5
                  simp (disch := omega)
                  refine Rnd.mk' (m + 1, e, lc, L'', true, tt) (by simp only; omega) (by (repeat (first | exact km | refine kp rfl ?_ | refine km' rfl ?_))) (by simp (disch := omega)) ⟨(sub_other sc').trans r3, hsp'.trans (r1.mono hm'.l1 (by have := hm'.l3; omega)), (hm'.sp (r1.mono (Nat.le_refl _) (by omega))).goR q1 q2 r2 hs2.1 hs2.2, hlc2⟩
                · have hwbI : ¬ (q : Int) ≤ (m : Int) - a := by omega
                  simp (disch := omega) [hqI, hlrI, hwbI]
                  rw [show L.length = L'.length by omega]
                  refine ih (m - a) (by omega) a m lc L' N' _ rfl k' (by omega) (by omega) (by omega) (by omega) hlc2 (fun h1 y h2 h3 => hm'.pa h1 y h2 (by have := hm'.l3; omega)) ?_
                  intro L'' N'' r1 r2 r3
                  rw [show L'.length = L.length by omega]
                  have hs2 := SP.left r1 q4 q5
                  simp (disch := omega)
                  refine Rnd.mk' (m + 1, e, lc, L'', false, tt) (by simp only; omega) (by (repeat (first | exact km | refine kp rfl ?_ | refine km' rfl ?_))) (by simp (disch := omega)) ⟨(sub_other sc').trans r3, hsp'.trans (r1.mono hm'.l1 (by have := hm'.l3; omega)), (hm'.sp (r1.mono (Nat.le_refl _) (by omega))).goR q1 q2 r2 hs2.1 hs2.2, hlc2⟩
              · have hlrI : ¬ (m : Int) - a < (e : Int) - m := by omega
                have hmp : (m : Int) + 1 = ((m + 1 : Nat) : Int) := by omega
                by_cases hwb : q ≤ e - m
                · have hwbI : (q : Int) ≤ (e : Int) - m := by omega
                  simp (disch := omega) [hqI, hlrI, hwbI]
                  rw [hmp, show L.length = L'.length by omega]
                  refine ih (e - (m + 1)) (by omega) (m + 1) e lc L' N' _ rfl k' (by omega) (by omega) (by omega) (by omega) hlc2 (fun h1 y h2 h3 => q5 y (by omega) h3) ?_
                  intro L'' N'' r1 r2 r3
                  rw [show L'.length = L.length by omega]
                  have hs2 := SP.right r1 q4 q5
                  simp (disch := omega)
                  refine Rnd.mk' (a, m, lc, L'', true, tt) (by simp only; omega) (by (repeat (first | exact km | refine kp rfl ?_ | refine km' rfl ?_))) (by simp (disch := omega)) ⟨(sub_other sc').trans r3, hsp'.trans (r1.mono (by have := hm'.l1; omega) hm'.l3), (hm'.sp (r1.mono (by omega) (Nat.le_refl _))).goL q1 q2 r2 hs2.1 hs2.2, hlc2⟩
                · have hwbI : ¬ (q : Int) ≤ (e : Int) - m := by omega
                  simp (disch := omega) [hqI, hlrI, hwbI]
                  rw [hmp, show L.length = L'.length by omega]
                  refine ih (e - (m + 1)) (by omega) (m + 1) e lc L' N' _ rfl k' (by omega) (by omega) (by omega) (by omega) hlc2 (fun h1 y h2 h3 => q5 y (by omega) h3) ?_
                  intro L'' N'' r1 r2 r3
                  rw [show L'.length = L.length by omega]
                  have hs2 := SP.right r1 q4 q5
                  simp (disch := omega)
                  refine Rnd.mk' (a, m, lc, L'', false, tt) (by simp only; omega) (by (repeat (first | exact km | refine kp rfl ?_ | refine km' rfl ?_))) (by simp (disch := omega)) ⟨(sub_other sc').trans r3, hsp'.trans (r1.mono (by have := hm'.l1; omega) hm'.l3), (hm'.sp (r1.mono (by omega) (Nat.le_refl _))).goL q1 q2 r2 hs2.1 hs2.2, hlc2⟩
            · rw [decide_eq_false hk]
              simp (disch := omega)
              rw [show L.length = Lc.length by omega]
              refine partitionEq_does b c a e pc Lc _ _ kc (by omega) (by omega) (by omega) (by omega) hp1 hp2 ?_
              intro L' m q1 q2 q3 q4 q5
              rw [show Lc.length = L.length by omega]
              have hm' := hmc.sp q3
              have hge : ∀ y, a ≤ y → y < e → K Lc pc ≤ K L' y := q3.inn (fun v => K Lc pc ≤ v) fun i b1 b2 => by
                have := hmc.pa (by omega) i b1 (by have := hmc.l3; omega)
                rw [show a - 1 = a1 by omega] at this
                omega
              simp (disch := omega)
              refine Rnd.mk' (m, e, lc, L', false, wp) (by simp only; omega) (by (repeat (first | exact km | refine kp rfl ?_ | refine km' rfl ?_))) (by simp (disch := omega)) ⟨sub_other sc, hspc.trans (q3.mono hmc.l1 hmc.l3), hm'.goE q1 q2 q4 q5 hge, hlc2⟩
          · have ha0I : ¬ (0 : Int) < a := by omega
            refine draw_to tab_ok (by kernel_rfl) (by kernel_rfl) (by rfl) ?_
            simp (disch := omega) [ha0, ha0I, undef]
            rw [show L.length = Lc.length by omega]
            refine partition_does b c a e pc Lc _ _ kc (by omega) (by omega) (by omega) (by omega) hp1 hp2 ?_
            intro L' m tt q1 q2 q3 q4 q5
            rw [show Lc.length = L.length by omega]
            have hm' := hmc.sp q3
            have hsp' := hspc.trans (q3.mono hmc.l1 hmc.l3)
            have sc' := sub_other (B' := .cells true (bytesV L') c) sc
            have hl' := hsp'.len
            have k' := sc' _ _ (put_same _ _ _)
            generalize Nc.put b (.cells true (bytesV L') c) = N' at *
            by_cases hlr : m - a < e - m
            · have hlrI : (m : Int) - a < (e : Int) - m := by omega
              by_cases hwb : q ≤ m - a
              · have hwbI : (q : Int) ≤ (m : Int) - a := by omega
                simp (disch := omega) [hqI, hlrI, hwbI]
                rw [show L.length = L'.length by omega]
                refine ih (m - a) (by omega) a m lc L' N' _ rfl k' (by omega) (by omega) (by omega) (by omega) hlc2 (fun h1 y h2 h3 => hm'.pa h1 y h2 (by have := hm'.l3; omega)) ?_
                intro L'' N'' r1 r2 r3
                rw [show L'.length = L.length by omega]
                have hs2 := SP.left r1 q4 q5
                simp (disch := omega)
                refine Rnd.mk' (m + 1, e, lc, L'', true, tt) (by simp only; omega) (by (repeat (first | exact km | refine kp rfl ?_ | refine km' rfl ?_))) (by simp (disch := omega)) ⟨(sub_other sc').trans r3, hsp'.trans (r1.mono hm'.l1 (by have := hm'.l3; omega)), (hm'.sp (r1.mono (Nat.le_refl _) (by omega))).goR q1 q2 r2 hs2.1 hs2.2, hlc2⟩
              · have hwbI : ¬ (q : Int) ≤ (m : Int) - a := by omega
                simp (disch := omega) [hqI, hlrI, hwbI]
                rw [show L.length = L'.length by omega]
                refine ih (m - a) (by omega) a m lc L' N' _ rfl k' (by omega) (by omega) (by omega) (by omega) hlc2 (fun h1 y h2 h3 => hm'.pa h1 y h2 (by have := hm'.l3; omega)) ?_
                intro L'' N'' r1 r2 r3
                rw [show L'.length = L.length by omega]
                have hs2 := SP.left r1 q4 q5
                simp (disch := omega)
                refine Rnd.mk' (m + 1, e, lc, L'', false, tt) (by simp only; omega) (by (repeat (first | exact km | refine kp rfl ?_ | refine km' rfl ?_))) (by simp (disch := omega)) ⟨(sub_other sc').trans r3, hsp'.trans (r1.mono hm'.l1 (by have := hm'.l3; omega)), (hm'.sp (r1.mono (Nat.le_refl _) (by omega))).goR q1 q2 r2 hs2.1 hs2.2, hlc2⟩
            · have hlrI : ¬ (m : Int) - a < (e : Int) - m := by omega
              have hmp : (m : Int) + 1 = ((m + 1 : Nat) : Int) := by omega
              by_cases hwb : q ≤ e - m
              · have hwbI : (q : Int) ≤ (e : Int) - m := by omega
                simp (disch := omega) [hqI, hlrI, hwbI]
                rw [hmp, show L.length = L'.length by omega]
                refine ih (e - (m + 1)) (by omega) (m + 1) e lc L' N' _ rfl k' (by omega) (by omega) (by omega) (by omega) hlc2 (fun h1 y h2 h3 => q5 y (by omega) h3) ?_
                intro L'' N'' r1 r2 r3
                rw [show L'.length = L.length by omega]
                have hs2 := SP.right r1 q4 q5
                simp (disch := omega)
                refine Rnd.mk' (a, m, lc, L'', true, tt) (by simp only; omega) (by (repeat (first | exact km | refine kp rfl ?_ | refine km' rfl ?_))) (by simp (disch := omega)) ⟨(sub_other sc').trans r3, hsp'.trans (r1.mono (by have := hm'.l1; omega) hm'.l3), (hm'.sp (r1.mono (by omega) (Nat.le_refl _))).goL q1 q2 r2 hs2.1 hs2.2, hlc2⟩
              · have hwbI : ¬ (q : Int) ≤ (e : Int) - m := by omega
                simp (disch := omega) [hqI, hlrI, hwbI]
                rw [hmp, show L.length = L'.length by omega]
                refine ih (e - (m + 1)) (by omega) (m + 1) e lc L' N' _ rfl k' (by omega) (by omega) (by omega) (by omega) hlc2 (fun h1 y h2 h3 => q5 y (by omega) h3) ?_
                intro L'' N'' r1 r2 r3
                rw [show L'.length = L.length by omega]
                have hs2 := SP.right r1 q4 q5
                simp (disch := omega)
                refine Rnd.mk' (a, m, lc, L'', false, tt) (by simp only; omega) (by (repeat (first | exact km | refine kp rfl ?_ | refine km' rfl ?_))) (by simp (disch := omega)) ⟨(sub_other sc').trans r3, hsp'.trans (r1.mono (by have := hm'.l1; omega) hm'.l3), (hm'.sp (r1.mono (by omega) (Nat.le_refl _))).goL q1 q2 r2 hs2.1 hs2.2, hlc2⟩
        · have kc := sc _ _ (put_same _ _ _)
          simp (disch := omega)
          rw [show L.length = Lc.length by omega]
          refine reverseRange_does b c a e Lc _ _ kc (by omega) (by omega) (by omega) (by omega) ?_
          intro L' q1
          rw [show Lc.length = L.length by omega]
          have hmc := hmc.sp q1
          have hspc := hspc.trans (q1.mono hmc.l1 hmc.l3)
          have sc := sub_other (B' := .cells true (bytesV L') c) sc
          clear kc hlc
          generalize Nc.put b (.cells true (bytesV L') c) = Nc at *
          generalize L' = Lc at *
          obtain ⟨p', hp'⟩ : ∃ p' : Nat, p' = (e - 1) - (pc - a) := ⟨_, rfl⟩
          have hpI : (e : Int) - 1 - ((pc : Int) - a) = p' := by omega
          have hp1 : a ≤ p' := by omega
          have hp2 : p' < e := by omega
          simp (disch := omega) [hpI]
          clear hp'
          generalize p' = pc at *
          have hlc := hspc.len
          have kc := sc _ _ (put_same _ _ _)
          have xp := getK kc (i := pc) (by omega)
          by_cases ha0 : 0 < a
          · have ha0I : (0 : Int) < a := by omega
            obtain ⟨a1, ha1⟩ : ∃ a1 : Nat, a = a1 + 1 := ⟨a - 1, by omega⟩
            have ha1I : (a : Int) - 1 = a1 := by omega
            have xa := getK kc (i := a1) (by omega)
            refine draw_to tab_ok (by kernel_rfl) (by kernel_rfl) (by rfl) ?_
            simp (disch := omega) [ha0, ha0I, ha1I, xp, xa]
            refine vQCall_at (a := []) (c := []) (lessB_does _ _ _ _ ⟨rfl, rfl⟩) ?_
            by_cases hk : K Lc a1 < K Lc pc
            · rw [decide_eq_true hk]
              simp (disch := omega)
              rw [show L.length = Lc.length by omega]
              refine partition_does b c a e pc Lc _ _ kc (by omega) (by omega) (by omega) (by omega) hp1 hp2 ?_
              intro L' m tt q1 q2 q3 q4 q5
              rw [show Lc.length = L.length by omega]
              have hm' := hmc.sp q3
              have hsp' := hspc.trans (q3.mono hmc.l1 hmc.l3)
              have sc' := sub_other (B' := .cells true (bytesV L') c) sc
              have hl' := hsp'.len
              have k' := sc' _ _ (put_same _ _ _)
              generalize Nc.put b (.cells true (bytesV L') c) = N' at *
              by_cases hlr : m - a < e - m
              · have hlrI : (m : Int) - a < (e : Int) - m := by omega
                by_cases hwb : q ≤ m - a
                · have hwbI : (q : Int) ≤ (m : Int) - a := by omega
                  simp (disch := omega) [hqI, hlrI, hwbI]
                  rw [show L.length = L'.length by omega]
                  refine ih (m - a) (by omega) a m lc L' N' _ rfl k' (by omega) (by omega) (by omega) (by omega) hlc2 (fun h1 y h2 h3 => hm'.pa h1 y h2 (by have := hm'.l3; omega)) ?_
                  intro L'' N'' r1 r2 r3
                  rw [show L'.length = L.length by omega]
                  have hs2 := SP.left r1 q4 q5
                  simp (disch := omega)
                  refine Rnd.mk' (m + 1, e, lc, L'', true, tt) (by simp only; omega) (by (repeat (first | exact km | refine kp rfl ?_ | refine km' rfl ?_))) (by simp (disch := omega)) ⟨(sub_other sc').trans r3, hsp'.trans (r1.mono hm'.l1 (by have := hm'.l3; omega)), (hm'.sp (r1.mono (Nat.le_refl _) (by omega))).goR q1 q2 r2 hs2.1 hs2.2, hlc2⟩
                · have hwbI : ¬ (q : Int) ≤ (m : Int) - a := by omega
                  simp (disch := omega) [hqI, hlrI, hwbI]
                  rw [show L.length = L'.length by omega]
                  refine ih (m - a) (by omega) a m lc L' N' _ rfl k' (by omega) (by omega) (by omega) (by omega) hlc2 (fun h1 y h2 h3 => hm'.pa h1 y h2 (by have := hm'.l3; omega)) ?_
                  intro L'' N'' r1 r2 r3
                  rw [show L'.length = L.length by omega]
                  have hs2 := SP.left r1 q4 q5
                  simp (disch := omega)
                  refine Rnd.mk' (m + 1, e, lc, L'', false, tt) (by simp only; omega) (by (repeat (first | exact km | refine kp rfl ?_ | refine km' rfl ?_))) (by simp (disch := omega)) ⟨(sub_other sc').trans r3, hsp'.trans (r1.mono hm'.l1 (by have := hm'.l3; omega)), (hm'.sp (r1.mono (Nat.le_refl _) (by omega))).goR q1 q2 r2 hs2.1 hs2.2, hlc2⟩
              · have hlrI : ¬ (m : Int) - a < (e : Int) - m := by omega
                have hmp : (m : Int) + 1 = ((m + 1 : Nat) : Int) := by omega
                by_cases hwb : q ≤ e - m
                · have hwbI : (q : Int) ≤ (e : Int) - m := by omega
                  simp (disch := omega) [hqI, hlrI, hwbI]
                  rw [hmp, show L.length = L'.length by omega]
                  refine ih (e - (m + 1)) (by omega) (m + 1) e lc L' N' _ rfl k' (by omega) (by omega) (by omega) (by omega) hlc2 (fun h1 y h2 h3 => q5 y (by omega) h3) ?_
                  intro L'' N'' r1 r2 r3
                  rw [show L'.length = L.length by omega]
                  have hs2 := SP.right r1 q4 q5
                  simp (disch := omega)
                  refine Rnd.mk' (a, m, lc, L'', true, tt) (by simp only; omega) (by (repeat (first | exact km | refine kp rfl ?_ | refine km' rfl ?_))) (by simp (disch := omega)) ⟨(sub_other sc').trans r3, hsp'.trans (r1.mono (by have := hm'.l1; omega) hm'.l3), (hm'.sp (r1.mono (by omega) (Nat.le_refl _))).goL q1 q2 r2 hs2.1 hs2.2, hlc2⟩
                · have hwbI : ¬ (q : Int) ≤ (e : Int) - m := by omega
                  simp (disch := omega) [hqI, hlrI, hwbI]
                  rw [hmp, show L.length = L'.length by omega]
                  refine ih (e - (m + 1)) (by omega) (m + 1) e lc L' N' _ rfl k' (by omega) (by omega) (by omega) (by omega) hlc2 (fun h1 y h2 h3 => q5 y (by omega) h3) ?_
                  intro L'' N'' r1 r2 r3
                  rw [show L'.length = L.length by omega]
                  have hs2 := SP.right r1 q4 q5
                  simp (disch := omega)
                  refine Rnd.mk' (a, m, lc, L'', false, tt) (by simp only; omega) (by (repeat (first | exact km | refine kp rfl ?_ | refine km' rfl ?_))) (by simp (disch := omega)) ⟨(sub_other sc').trans r3, hsp'.trans (r1.mono (by have := hm'.l1; omega) hm'.l3), (hm'.sp (r1.mono (by omega) (Nat.le_refl _))).goL q1 q2 r2 hs2.1 hs2.2, hlc2⟩
            · rw [decide_eq_false hk]
              simp (disch := omega)
              rw [show L.length = Lc.length by omega]
              refine partitionEq_does b c a e pc Lc _ _ kc (by omega) (by omega) (by omega) (by omega) hp1 hp2 ?_
              intro L' m q1 q2 q3 q4 q5
              rw [show Lc.length = L.length by omega]
              have hm' := hmc.sp q3
              have hge : ∀ y, a ≤ y → y < e → K Lc pc ≤ K L' y := q3.inn (fun v => K Lc pc ≤ v) fun i b1 b2 => by
                have := hmc.pa (by omega) i b1 (by have := hmc.l3; omega)
                rw [show a - 1 = a1 by omega] at this
                omega
              simp (disch := omega)
              refine Rnd.mk' (m, e, lc, L', false, wp) (by simp only; omega) (by (repeat (first | exact km | refine kp rfl ?_ | refine km' rfl ?_))) (by simp (disch := omega)) ⟨sub_other sc, hspc.trans (q3.mono hmc.l1 hmc.l3), hm'.goE q1 q2 q4 q5 hge, hlc2⟩
          · have ha0I : ¬ (0 : Int) < a := by omega
            refine draw_to tab_ok (by kernel_rfl) (by kernel_rfl) (by rfl) ?_
            simp (disch := omega) [ha0, ha0I, undef]
            rw [show L.length = Lc.length by omega]
            refine partition_does b c a e pc Lc _ _ kc (by omega) (by omega) (by omega) (by omega) hp1 hp2 ?_
            intro L' m tt q1 q2 q3 q4 q5
            rw [show Lc.length = L.length by omega]
            have hm' := hmc.sp q3
            have hsp' := hspc.trans (q3.mono hmc.l1 hmc.l3)
            have sc' := sub_other (B' := .cells true (bytesV L') c) sc
            have hl' := hsp'.len
            have k' := sc' _ _ (put_same _ _ _)
            generalize Nc.put b (.cells true (bytesV L') c) = N' at *
            by_cases hlr : m - a < e - m
            · have hlrI : (m : Int) - a < (e : Int) - m := by omega
              by_cases hwb : q ≤ m - a
              · have hwbI : (q : Int) ≤ (m : Int) - a := by omega
                simp (disch := omega) [hqI, hlrI, hwbI]
                rw [show L.length = L'.length by omega]
                refine ih (m - a) (by omega) a m lc L' N' _ rfl k' (by omega) (by omega) (by omega) (by omega) hlc2 (fun h1 y h2 h3 => hm'.pa h1 y h2 (by have := hm'.l3; omega)) ?_
                intro L'' N'' r1 r2 r3
                rw [show L'.length = L.length by omega]
                have hs2 := SP.left r1 q4 q5
                simp (disch := omega)
                refine Rnd.mk' (m + 1, e, lc, L'', true, tt) (by simp only; omega) (by (repeat (first | exact km | refine kp rfl ?_ | refine km' rfl ?_))) (by simp (disch := omega)) ⟨(sub_other sc').trans r3, hsp'.trans (r1.mono hm'.l1 (by have := hm'.l3; omega)), (hm'.sp (r1.mono (Nat.le_refl _) (by omega))).goR q1 q2 r2 hs2.1 hs2.2, hlc2⟩
              · have hwbI : ¬ (q : Int) ≤ (m : Int) - a := by omega
                simp (disch := omega) [hqI, hlrI, hwbI]
                rw [show L.length = L'.length by omega]
                refine ih (m - a) (by omega) a m lc L' N' _ rfl k' (by omega) (by omega) (by omega) (by omega) hlc2 (fun h1 y h2 h3 => hm'.pa h1 y h2 (by have := hm'.l3; omega)) ?_
                intro L'' N'' r1 r2 r3
                rw [show L'.length = L.length by omega]
                have hs2 := SP.left r1 q4 q5
                simp (disch := omega)
                refine Rnd.mk' (m + 1, e, lc, L'', false, tt) (by simp only; omega) (by (repeat (first | exact km | refine kp rfl ?_ | refine km' rfl ?_))) (by simp (disch := omega)) ⟨(sub_other sc').trans r3, hsp'.trans (r1.mono hm'.l1 (by have := hm'.l3; omega)), (hm'.sp (r1.mono (Nat.le_refl _) (by omega))).goR q1 q2 r2 hs2.1 hs2.2, hlc2⟩
            · have hlrI : ¬ (m : Int) - a < (e : Int) - m := by omega
              have hmp : (m : Int) + 1 = ((m + 1 : Nat) : Int) := by omega
              by_cases hwb : q ≤ e - m
              · have hwbI : (q : Int) ≤ (e : Int) - m := by omega
                simp (disch := omega) [hqI, hlrI, hwbI]
                rw [hmp, show L.length = L'.length by omega]
                refine ih (e - (m + 1)) (by omega) (m + 1) e lc L' N' _ rfl k' (by omega) (by omega) (by omega) (by omega) hlc2 (fun h1 y h2 h3 => q5 y (by omega) h3) ?_
                intro L'' N'' r1 r2 r3
                rw [show L'.length = L.length by omega]
                have hs2 := SP.right r1 q4 q5
                simp (disch := omega)
                refine Rnd.mk' (a, m, lc, L'', true, tt) (by simp only; omega) (by (repeat (first | exact km | refine kp rfl ?_ | refine km' rfl ?_))) (by simp (disch := omega)) ⟨(sub_other sc').trans r3, hsp'.trans (r1.mono (by have := hm'.l1; omega) hm'.l3), (hm'.sp (r1.mono (by omega) (Nat.le_refl _))).goL q1 q2 r2 hs2.1 hs2.2, hlc2⟩
              · have hwbI : ¬ (q : Int) ≤ (e : Int) - m := by omega
                simp (disch := omega) [hqI, hlrI, hwbI]
                rw [hmp, show L.length = L'.length by omega]
                refine ih (e - (m + 1)) (by omega) (m + 1) e lc L' N' _ rfl k' (by omega) (by omega) (by omega) (by omega) hlc2 (fun h1 y h2 h3 => q5 y (by omega) h3) ?_
                intro L'' N'' r1 r2 r3
                rw [show L'.length = L.length by omega]
                have hs2 := SP.right r1 q4 q5
                simp (disch := omega)
                refine Rnd.mk' (a, m, lc, L'', false, tt) (by simp only; omega) (by (repeat (first | exact km | refine kp rfl ?_ | refine km' rfl ?_))) (by simp (disch := omega)) ⟨(sub_other sc').trans r3, hsp'.trans (r1.mono (by have := hm'.l1; omega) hm'.l3), (hm'.sp (r1.mono (by omega) (Nat.le_refl _))).goL q1 q2 r2 hs2.1 hs2.2, hlc2⟩
      · simp (disch := omega) [h12I, hl0, hl0I]
        clear kc hlc
        have kc := sc _ _ (put_same _ _ _)
        have hlc := hspc.len
        rw [show L.length = Lc.length by omega]
        refine choosePivot_does b c a e Lc _ _ kc (by omega) (by omega) (by omega) (by omega) ?_
        intro pc t N9 hp1 hp2 ht s9
        rw [show Lc.length = L.length by omega]
        have sc := sc.trans s9
        clear kc
        generalize N9 = Nc at *
        rcases ht with rfl | rfl | rfl
        · cases wp
          · simp (disch := omega)
            clear hlc
            have hlc := hspc.len
            have kc := sc _ _ (put_same _ _ _)
            have xp := getK kc (i := pc) (by omega)
            by_cases ha0 : 0 < a
            · have ha0I : (0 : Int) < a := by omega
              obtain ⟨a1, ha1⟩ : ∃ a1 : Nat, a = a1 + 1 := ⟨a - 1, by omega⟩
              have ha1I : (a : Int) - 1 = a1 := by omega
              have xa := getK kc (i := a1) (by omega)
              refine draw_to tab_ok (by kernel_rfl) (by kernel_rfl) (by rfl) ?_
              simp (disch := omega) [ha0, ha0I, ha1I, xp, xa]
              refine vQCall_at (a := []) (c := []) (lessB_does _ _ _ _ ⟨rfl, rfl⟩) ?_
              by_cases hk : K Lc a1 < K Lc pc
              · rw [decide_eq_true hk]
                simp (disch := omega)
                rw [show L.length = Lc.length by omega]
                refine partition_does b c a e pc Lc _ _ kc (by omega) (by omega) (by omega) (by omega) hp1 hp2 ?_
                intro L' m tt q1 q2 q3 q4 q5
                rw [show Lc.length = L.length by omega]
                have hm' := hmc.sp q3
                have hsp' := hspc.trans (q3.mono hmc.l1 hmc.l3)
                have sc' := sub_other (B' := .cells true (bytesV L') c) sc
                have hl' := hsp'.len
                have k' := sc' _ _ (put_same _ _ _)
                generalize Nc.put b (.cells true (bytesV L') c) = N' at *
                by_cases hlr : m - a < e - m
                · have hlrI : (m : Int) - a < (e : Int) - m := by omega
                  by_cases hwb : q ≤ m - a
                  · have hwbI : (q : Int) ≤ (m : Int) - a := by omega
                    simp (disch := omega) [hqI, hlrI, hwbI]
                    rw [show L.length = L'.length by omega]
                    refine ih (m - a) (by omega) a m lc L' N' _ rfl k' (by omega) (by omega) (by omega) (by omega) hlc2 (fun h1 y h2 h3 => hm'.pa h1 y h2 (by have := hm'.l3; omega)) ?_
                    intro L'' N'' r1 r2 r3
                    rw [show L'.length = L.length by omega]
                    have hs2 := SP.left r1 q4 q5
                    simp (disch := omega)
                    refine Rnd.mk' (m + 1, e, lc, L'', true, tt) (by simp only; omega) (by (repeat (first | exact km | refine kp rfl ?_ | refine km' rfl ?_))) (by simp (disch := omega)) ⟨(sub_other sc').trans r3, hsp'.trans (r1.mono hm'.l1 (by have := hm'.l3; omega)), (hm'.sp (r1.mono (Nat.le_refl _) (by omega))).goR q1 q2 r2 hs2.1 hs2.2, hlc2⟩
                  · have hwbI : ¬ (q : Int) ≤ (m : Int) - a := by omega
                    simp (disch := omega) [hqI, hlrI, hwbI]
                    rw [show L.length = L'.length by omega]
                    refine ih (m - a) (by omega) a m lc L' N' _ rfl k' (by omega) (by omega) (by omega) (by omega) hlc2 (fun h1 y h2 h3 => hm'.pa h1 y h2 (by have := hm'.l3; omega)) ?_
                    intro L'' N'' r1 r2 r3
                    rw [show L'.length = L.length by omega]
                    have hs2 := SP.left r1 q4 q5
                    simp (disch := omega)
                    refine Rnd.mk' (m + 1, e, lc, L'', false, tt) (by simp only; omega) (by (repeat (first | exact km | refine kp rfl ?_ | refine km' rfl ?_))) (by simp (disch := omega)) ⟨(sub_other sc').trans r3, hsp'.trans (r1.mono hm'.l1 (by have := hm'.l3; omega)), (hm'.sp (r1.mono (Nat.le_refl _) (by omega))).goR q1 q2 r2 hs2.1 hs2.2, hlc2⟩
                · have hlrI : ¬ (m : Int) - a < (e : Int) - m := by omega
                  have hmp : (m : Int) + 1 = ((m + 1 : Nat) : Int) := by omega
                  by_cases hwb : q ≤ e - m
                  · have hwbI : (q : Int) ≤ (e : Int) - m := by omega
                    simp (disch := omega) [hqI, hlrI, hwbI]
                    rw [hmp, show L.length = L'.length by omega]
                    refine ih (e - (m + 1)) (by omega) (m + 1) e lc L' N' _ rfl k' (by omega) (by omega) (by omega) (by omega) hlc2 (fun h1 y h2 h3 => q5 y (by omega) h3) ?_
                    intro L'' N'' r1 r2 r3
                    rw [show L'.length = L.length by omega]
                    have hs2 := SP.right r1 q4 q5
                    simp (disch := omega)
                    refine Rnd.mk' (a, m, lc, L'', true, tt) (by simp only; omega) (by (repeat (first | exact km | refine kp rfl ?_ | refine km' rfl ?_))) (by simp (disch := omega)) ⟨(sub_other sc').trans r3, hsp'.trans (r1.mono (by have := hm'.l1; omega) hm'.l3), (hm'.sp (r1.mono (by omega) (Nat.le_refl _))).goL q1 q2 r2 hs2.1 hs2.2, hlc2⟩
                  · have hwbI : ¬ (q : Int) ≤ (e : Int) - m := by omega
                    simp (disch := omega) [hqI, hlrI, hwbI]
                    rw [hmp, show L.length = L'.length by omega]
                    refine ih (e - (m + 1)) (by omega) (m + 1) e lc L' N' _ rfl k' (by omega) (by omega) (by omega) (by omega) hlc2 (fun h1 y h2 h3 => q5 y (by omega) h3) ?_
                    intro L'' N'' r1 r2 r3
                    rw [show L'.length = L.length by omega]
                    have hs2 := SP.right r1 q4 q5
                    simp (disch := omega)
                    refine Rnd.mk' (a, m, lc, L'', false, tt) (by simp only; omega) (by (repeat (first | exact km | refine kp rfl ?_ | refine km' rfl ?_))) (by simp (disch := omega)) ⟨(sub_other sc').trans r3, hsp'.trans (r1.mono (by have := hm'.l1; omega) hm'.l3), (hm'.sp (r1.mono (by omega) (Nat.le_refl _))).goL q1 q2 r2 hs2.1 hs2.2, hlc2⟩
              · rw [decide_eq_false hk]
                simp (disch := omega)
                rw [show L.length = Lc.length by omega]
                refine partitionEq_does b c a e pc Lc _ _ kc (by omega) (by omega) (by omega) (by omega) hp1 hp2 ?_
                intro L' m q1 q2 q3 q4 q5
                rw [show Lc.length = L.length by omega]
                have hm' := hmc.sp q3
                have hge : ∀ y, a ≤ y → y < e → K Lc pc ≤ K L' y := q3.inn (fun v => K Lc pc ≤ v) fun i b1 b2 => by
                  have := hmc.pa (by omega) i b1 (by have := hmc.l3; omega)
                  rw [show a - 1 = a1 by omega] at this
                  omega
                simp (disch := omega)
                refine Rnd.mk' (m, e, lc, L', true, false) (by simp only; omega) (by (repeat (first | exact km | refine kp rfl ?_ | refine km' rfl ?_))) (by simp (disch := omega)) ⟨sub_other sc, hspc.trans (q3.mono hmc.l1 hmc.l3), hm'.goE q1 q2 q4 q5 hge, hlc2⟩
            · have ha0I : ¬ (0 : Int) < a := by omega
              refine draw_to tab_ok (by kernel_rfl) (by kernel_rfl) (by rfl) ?_
              simp (disch := omega) [ha0, ha0I, undef]
              rw [show L.length = Lc.length by omega]
              refine partition_does b c a e pc Lc _ _ kc (by omega) (by omega) (by omega) (by omega) hp1 hp2 ?_
              intro L' m tt q1 q2 q3 q4 q5
              rw [show Lc.length = L.length by omega]
              have hm' := hmc.sp q3
              have hsp' := hspc.trans (q3.mono hmc.l1 hmc.l3)
              have sc' := sub_other (B' := .cells true (bytesV L') c) sc
              have hl' := hsp'.len
              have k' := sc' _ _ (put_same _ _ _)
              generalize Nc.put b (.cells true (bytesV L') c) = N' at *
              by_cases hlr : m - a < e - m
              · have hlrI : (m : Int) - a < (e : Int) - m := by omega
                by_cases hwb : q ≤ m - a
                · have hwbI : (q : Int) ≤ (m : Int) - a := by omega
                  simp (disch := omega) [hqI, hlrI, hwbI]
                  rw [show L.length = L'.length by omega]
                  refine ih (m - a) (by omega) a m lc L' N' _ rfl k' (by omega) (by omega) (by omega) (by omega) hlc2 (fun h1 y h2 h3 => hm'.pa h1 y h2 (by have := hm'.l3; omega)) ?_
                  intro L'' N'' r1 r2 r3
                  rw [show L'.length = L.length by omega]
                  have hs2 := SP.left r1 q4 q5
                  simp (disch := omega)
                  refine Rnd.mk' (m + 1, e, lc, L'', true, tt) (by simp only; omega) (by (repeat (first | exact km | refine kp rfl ?_ | refine km' rfl ?_))) (by simp (disch := omega)) ⟨(sub_other sc').trans r3, hsp'.trans (r1.mono hm'.l1 (by have := hm'.l3; omega)), (hm'.sp (r1.mono (Nat.le_refl _) (by omega))).goR q1 q2 r2 hs2.1 hs2.2, hlc2⟩
                · have hwbI : ¬ (q : Int) ≤ (m : Int) - a := by omega
                  simp (disch := omega) [hqI, hlrI, hwbI]
                  rw [show L.length = L'.length by omega]
                  refine ih (m - a) (by omega) a m lc L' N' _ rfl k' (by omega) (by omega) (by omega) (by omega) hlc2 (fun h1 y h2 h3 => hm'.pa h1 y h2 (by have := hm'.l3; omega)) ?_
                  intro L'' N'' r1 r2 r3
                  rw [show L'.length = L.length by omega]
                  have hs2 := SP.left r1 q4 q5
                  simp (disch := omega)
                  refine Rnd.mk' (m + 1, e, lc, L'', false, tt) (by simp only; omega) (by (repeat (first | exact km | refine kp rfl ?_ | refine km' rfl ?_))) (by simp (disch := omega)) ⟨(sub_other sc').trans r3, hsp'.trans (r1.mono hm'.l1 (by have := hm'.l3; omega)), (hm'.sp (r1.mono (Nat.le_refl _) (by omega))).goR q1 q2 r2 hs2.1 hs2.2, hlc2⟩
              · have hlrI : ¬ (m : Int) - a < (e : Int) - m := by omega
                have hmp : (m : Int) + 1 = ((m + 1 : Nat) : Int) := by omega
                by_cases hwb : q ≤ e - m
                · have hwbI : (q : Int) ≤ (e : Int) - m := by omega
                  simp (disch := omega) [hqI, hlrI, hwbI]
                  rw [hmp, show L.length = L'.length by omega]
                  refine ih (e - (m + 1)) (by omega) (m + 1) e lc L' N' _ rfl k' (by omega) (by omega) (by omega) (by omega) hlc2 (fun h1 y h2 h3 => q5 y (by omega) h3) ?_
                  intro L'' N'' r1 r2 r3
                  rw [show L'.length = L.length by omega]
                  have hs2 := SP.right r1 q4 q5
                  simp (disch := omega)
                  refine Rnd.mk' (a, m, lc, L'', true, tt) (by simp only; omega) (by (repeat (first | exact km | refine kp rfl ?_ | refine km' rfl ?_))) (by simp (disch := omega)) ⟨(sub_other sc').trans r3, hsp'.trans (r1.mono (by have := hm'.l1; omega) hm'.l3), (hm'.sp (r1.mono (by omega) (Nat.le_refl _))).goL q1 q2 r2 hs2.1 hs2.2, hlc2⟩
                · have hwbI : ¬ (q : Int) ≤ (e : Int) - m := by omega
                  simp (disch := omega) [hqI, hlrI, hwbI]
                  rw [hmp, show L.length = L'.length by omega]
                  refine ih (e - (m + 1)) (by omega) (m + 1) e lc L' N' _ rfl k' (by omega) (by omega) (by omega) (by omega) hlc2 (fun h1 y h2 h3 => q5 y (by omega) h3) ?_
                  intro L'' N'' r1 r2 r3
                  rw [show L'.length = L.length by omega]
                  have hs2 := SP.right r1 q4 q5
                  simp (disch := omega)
                  refine Rnd.mk' (a, m, lc, L'', false, tt) (by simp only; omega) (by (repeat (first | exact km | refine kp rfl ?_ | refine km' rfl ?_))) (by simp (disch := omega)) ⟨(sub_other sc').trans r3, hsp'.trans (r1.mono (by have := hm'.l1; omega) hm'.l3), (hm'.sp (r1.mono (by omega) (Nat.le_refl _))).goL q1 q2 r2 hs2.1 hs2.2, hlc2⟩
          · simp (disch := omega)
            clear hlc
            have hlc := hspc.len
            have kc := sc _ _ (put_same _ _ _)
            have xp := getK kc (i := pc) (by omega)
            by_cases ha0 : 0 < a
            · have ha0I : (0 : Int) < a := by omega
              obtain ⟨a1, ha1⟩ : ∃ a1 : Nat, a = a1 + 1 := ⟨a - 1, by omega⟩
              have ha1I : (a : Int) - 1 = a1 := by omega
              have xa := getK kc (i := a1) (by omega)
              refine draw_to tab_ok (by kernel_rfl) (by kernel_rfl) (by rfl) ?_
              simp (disch := omega) [ha0, ha0I, ha1I, xp, xa]
              refine vQCall_at (a := []) (c := []) (lessB_does _ _ _ _ ⟨rfl, rfl⟩) ?_
              by_cases hk : K Lc a1 < K Lc pc
              · rw [decide_eq_true hk]
                simp (disch := omega)
                rw [show L.length = Lc.length by omega]
                refine partition_does b c a e pc Lc _ _ kc (by omega) (by omega) (by omega) (by omega) hp1 hp2 ?_
                intro L' m tt q1 q2 q3 q4 q5
                rw [show Lc.length = L.length by omega]
                have hm' := hmc.sp q3
                have hsp' := hspc.trans (q3.mono hmc.l1 hmc.l3)
                have sc' := sub_other (B' := .cells true (bytesV L') c) sc
                have hl' := hsp'.len
                have k' := sc' _ _ (put_same _ _ _)
                generalize Nc.put b (.cells true (bytesV L') c) = N' at *
                by_cases hlr : m - a < e - m
                · have hlrI : (m : Int) - a < (e : Int) - m := by omega
                  by_cases hwb : q ≤ m - a
                  · have hwbI : (q : Int) ≤ (m : Int) - a := by omega
                    simp (disch := omega) [hqI, hlrI, hwbI]
                    rw [show L.length = L'.length by omega]
                    refine ih (m - a) (by omega) a m lc L' N' _ rfl k' (by omega) (by omega) (by omega) (by omega) hlc2 (fun h1 y h2 h3 => hm'.pa h1 y h2 (by have := hm'.l3; omega)) ?_
                    intro L'' N'' r1 r2 r3
                    rw [show L'.length = L.length by omega]
                    have hs2 := SP.left r1 q4 q5
                    simp (disch := omega)
                    refine Rnd.mk' (m + 1, e, lc, L'', true, tt) (by simp only; omega) (by (repeat (first | exact km | refine kp rfl ?_ | refine km' rfl ?_))) (by simp (disch := omega)) ⟨(sub_other sc').trans r3, hsp'.trans (r1.mono hm'.l1 (by have := hm'.l3; omega)), (hm'.sp (r1.mono (Nat.le_refl _) (by omega))).goR q1 q2 r2 hs2.1 hs2.2, hlc2⟩
                  · have hwbI : ¬ (q : Int) ≤ (m : Int) - a := by omega
                    simp (disch := omega) [hqI, hlrI, hwbI]
                    rw [show L.length = L'.length by omega]
                    refine ih (m - a) (by omega) a m lc L' N' _ rfl k' (by omega) (by omega) (by omega) (by omega) hlc2 (fun h1 y h2 h3 => hm'.pa h1 y h2 (by have := hm'.l3; omega)) ?_
                    intro L'' N'' r1 r2 r3
                    rw [show L'.length = L.length by omega]
                    have hs2 := SP.left r1 q4 q5
                    simp (disch := omega)
                    refine Rnd.mk' (m + 1, e, lc, L'', false, tt) (by simp only; omega) (by (repeat (first | exact km | refine kp rfl ?_ | refine km' rfl ?_))) (by simp (disch := omega)) ⟨(sub_other sc').trans r3, hsp'.trans (r1.mono hm'.l1 (by have := hm'.l3; omega)), (hm'.sp (r1.mono (Nat.le_refl _) (by omega))).goR q1 q2 r2 hs2.1 hs2.2, hlc2⟩
                · have hlrI : ¬ (m : Int) - a < (e : Int) - m := by omega
                  have hmp : (m : Int) + 1 = ((m + 1 : Nat) : Int) := by omega
                  by_cases hwb : q ≤ e - m
                  · have hwbI : (q : Int) ≤ (e : Int) - m := by omega
                    simp (disch := omega) [hqI, hlrI, hwbI]
                    rw [hmp, show L.length = L'.length by omega]
                    refine ih (e - (m + 1)) (by omega) (m + 1) e lc L' N' _ rfl k' (by omega) (by omega) (by omega) (by omega) hlc2 (fun h1 y h2 h3 => q5 y (by omega) h3) ?_
                    intro L'' N'' r1 r2 r3
                    rw [show L'.length = L.length by omega]
                    have hs2 := SP.right r1 q4 q5
                    simp (disch := omega)
                    refine Rnd.mk' (a, m, lc, L'', true, tt) (by simp only; omega) (by (repeat (first | exact km | refine kp rfl ?_ | refine km' rfl ?_))) (by simp (disch := omega)) ⟨(sub_other sc').trans r3, hsp'.trans (r1.mono (by have := hm'.l1; omega) hm'.l3), (hm'.sp (r1.mono (by omega) (Nat.le_refl _))).goL q1 q2 r2 hs2.1 hs2.2, hlc2⟩
                  · have hwbI : ¬ (q : Int) ≤ (e : Int) - m := by omega
                    simp (disch := omega) [hqI, hlrI, hwbI]
                    rw [hmp, show L.length = L'.length by omega]
                    refine ih (e - (m + 1)) (by omega) (m + 1) e lc L' N' _ rfl k' (by omega) (by omega) (by omega) (by omega) hlc2 (fun h1 y h2 h3 => q5 y (by omega) h3) ?_
                    intro L'' N'' r1 r2 r3
                    rw [show L'.length = L.length by omega]
                    have hs2 := SP.right r1 q4 q5
                    simp (disch := omega)
                    refine Rnd.mk' (a, m, lc, L'', false, tt) (by simp only; omega) (by (repeat (first | exact km | refine kp rfl ?_ | refine km' rfl ?_))) (by simp (disch := omega)) ⟨(sub_other sc').trans r3, hsp'.trans (r1.mono (by have := hm'.l1; omega) hm'.l3), (hm'.sp (r1.mono (by omega) (Nat.le_refl _))).goL q1 q2 r2 hs2.1 hs2.2, hlc2⟩
              · rw [decide_eq_false hk]
                simp (disch := omega)
                rw [show L.length = Lc.length by omega]
                refine partitionEq_does b c a e pc Lc _ _ kc (by omega) (by omega) (by omega) (by omega) hp1 hp2 ?_
                intro L' m q1 q2 q3 q4 q5
                rw [show Lc.length = L.length by omega]
                have hm' := hmc.sp q3
                have hge : ∀ y, a ≤ y → y < e → K Lc pc ≤ K L' y := q3.inn (fun v => K Lc pc ≤ v) fun i b1 b2 => by
                  have := hmc.pa (by omega) i b1 (by have := hmc.l3; omega)
                  rw [show a - 1 = a1 by omega] at this
                  omega
                simp (disch := omega)
                refine Rnd.mk' (m, e, lc, L', true, true) (by simp only; omega) (by (repeat (first | exact km | refine kp rfl ?_ | refine km' rfl ?_))) (by simp (disch := omega)) ⟨sub_other sc, hspc.trans (q3.mono hmc.l1 hmc.l3), hm'.goE q1 q2 q4 q5 hge, hlc2⟩
            · have ha0I : ¬ (0 : Int) < a := by omega
              refine draw_to tab_ok (by kernel_rfl) (by kernel_rfl) (by rfl) ?_
              simp (disch := omega) [ha0, ha0I, undef]
              rw [show L.length = Lc.length by omega]
              refine partition_does b c a e pc Lc _ _ kc (by omega) (by omega) (by omega) (by omega) hp1 hp2 ?_
              intro L' m tt q1 q2 q3 q4 q5
              rw [show Lc.length = L.length by omega]
              have hm' := hmc.sp q3
              have hsp' := hspc.trans (q3.mono hmc.l1 hmc.l3)
              have sc' := sub_other (B' := .cells true (bytesV L') c) sc
              have hl' := hsp'.len
              have k' := sc' _ _ (put_same _ _ _)
              generalize Nc.put b (.cells true (bytesV L') c) = N' at *
              by_cases hlr : m - a < e - m
              · have hlrI : (m : Int) - a < (e : Int) - m := by omega
                by_cases hwb : q ≤ m - a
                · have hwbI : (q : Int) ≤ (m : Int) - a := by omega
                  simp (disch := omega) [hqI, hlrI, hwbI]
                  rw [show L.length = L'.length by omega]
                  refine ih (m - a) (by omega) a m lc L' N' _ rfl k' (by omega) (by omega) (by omega) (by omega) hlc2 (fun h1 y h2 h3 => hm'.pa h1 y h2 (by have := hm'.l3; omega)) ?_
                  intro L'' N'' r1 r2 r3
                  rw [show L'.length = L.length by omega]
                  have hs2 := SP.left r1 q4 q5
                  simp (disch := omega)
                  refine Rnd.mk' (m + 1, e, lc, L'', true, tt) (by simp only; omega) (by (repeat (first | exact km | refine kp rfl ?_ | refine km' rfl ?_))) (by simp (disch := omega)) ⟨(sub_other sc').trans r3, hsp'.trans (r1.mono hm'.l1 (by have := hm'.l3; omega)), (hm'.sp (r1.mono (Nat.le_refl _) (by omega))).goR q1 q2 r2 hs2.1 hs2.2, hlc2⟩
                · have hwbI : ¬ (q : Int) ≤ (m : Int) - a := by omega
                  simp (disch := omega) [hqI, hlrI, hwbI]
                  rw [show L.length = L'.length by omega]
                  refine ih (m - a) (by omega) a m lc L' N' _ rfl k' (by omega) (by omega) (by omega) (by omega) hlc2 (fun h1 y h2 h3 => hm'.pa h1 y h2 (by have := hm'.l3; omega)) ?_
                  intro L'' N'' r1 r2 r3
                  rw [show L'.length = L.length by omega]
                  have hs2 := SP.left r1 q4 q5
                  simp (disch := omega)
                  refine Rnd.mk' (m + 1, e, lc, L'', false, tt) (by simp only; omega) (by (repeat (first | exact km | refine kp rfl ?_ | refine km' rfl ?_))) (by simp (disch := omega)) ⟨(sub_other sc').trans r3, hsp'.trans (r1.mono hm'.l1 (by have := hm'.l3; omega)), (hm'.sp (r1.mono (Nat.le_refl _) (by omega))).goR q1 q2 r2 hs2.1 hs2.2, hlc2⟩
              · have hlrI : ¬ (m : Int) - a < (e : Int) - m := by omega
                have hmp : (m : Int) + 1 = ((m + 1 : Nat) : Int) := by omega
                by_cases hwb : q ≤ e - m
                · have hwbI : (q : Int) ≤ (e : Int) - m := by omega
                  simp (disch := omega) [hqI, hlrI, hwbI]
                  rw [hmp, show L.length = L'.length by omega]
                  refine ih (e - (m + 1)) (by omega) (m + 1) e lc L' N' _ rfl k' (by omega) (by omega) (by omega) (by omega) hlc2 (fun h1 y h2 h3 => q5 y (by omega) h3) ?_
                  intro L'' N'' r1 r2 r3
                  rw [show L'.length = L.length by omega]
                  have hs2 := SP.right r1 q4 q5
                  simp (disch := omega)
                  refine Rnd.mk' (a, m, lc, L'', true, tt) (by simp only; omega) (by (repeat (first | exact km | refine kp rfl ?_ | refine km' rfl ?_))) (by simp (disch := omega)) ⟨(sub_other sc').trans r3, hsp'.trans (r1.mono (by have := hm'.l1; omega) hm'.l3), (hm'.sp (r1.mono (by omega) (Nat.le_refl _))).goL q1 q2 r2 hs2.1 hs2.2, hlc2⟩
                · have hwbI : ¬ (q : Int) ≤ (e : Int) - m := by omega
                  simp (disch := omega) [hqI, hlrI, hwbI]
                  rw [hmp, show L.length = L'.length by omega]
                  refine ih (e - (m + 1)) (by omega) (m + 1) e lc L' N' _ rfl k' (by omega) (by omega) (by omega) (by omega) hlc2 (fun h1 y h2 h3 => q5 y (by omega) h3) ?_
                  intro L'' N'' r1 r2 r3
                  rw [show L'.length = L.length by omega]
                  have hs2 := SP.right r1 q4 q5
                  simp (disch := omega)
                  refine Rnd.mk' (a, m, lc, L'', false, tt) (by simp only; omega) (by (repeat (first | exact km | refine kp rfl ?_ | refine km' rfl ?_))) (by simp (disch := omega)) ⟨(sub_other sc').trans r3, hsp'.trans (r1.mono (by have := hm'.l1; omega) hm'.l3), (hm'.sp (r1.mono (by omega) (Nat.le_refl _))).goL q1 q2 r2 hs2.1 hs2.2, hlc2⟩
        · cases wp
          · simp (disch := omega)
            clear hlc
            have hlc := hspc.len
            have kc := sc _ _ (put_same _ _ _)
            have xp := getK kc (i := pc) (by omega)
            by_cases ha0 : 0 < a
            · have ha0I : (0 : Int) < a := by omega
              obtain ⟨a1, ha1⟩ : ∃ a1 : Nat, a = a1 + 1 := ⟨a - 1, by omega⟩
              have ha1I : (a : Int) - 1 = a1 := by omega
              have xa := getK kc (i := a1) (by omega)
              refine draw_to tab_ok (by kernel_rfl) (by kernel_rfl) (by rfl) ?_
              simp (disch := omega) [ha0, ha0I, ha1I, xp, xa]
              refine vQCall_at (a := []) (c := []) (lessB_does _ _ _ _ ⟨rfl, rfl⟩) ?_
              by_cases hk : K Lc a1 < K Lc pc
              · rw [decide_eq_true hk]
                simp (disch := omega)
                rw [show L.length = Lc.length by omega]
                refine partition_does b c a e pc Lc _ _ kc (by omega) (by omega) (by omega) (by omega) hp1 hp2 ?_
                intro L' m tt q1 q2 q3 q4 q5
                rw [show Lc.length = L.length by omega]
                have hm' := hmc.sp q3
                have hsp' := hspc.trans (q3.mono hmc.l1 hmc.l3)
                have sc' := sub_other (B' := .cells true (bytesV L') c) sc
                have hl' := hsp'.len
                have k' := sc' _ _ (put_same _ _ _)
                generalize Nc.put b (.cells true (bytesV L') c) = N' at *
                by_cases hlr : m - a < e - m
                · have hlrI : (m : Int) - a < (e : Int) - m := by omega
                  by_cases hwb : q ≤ m - a
                  · have hwbI : (q : Int) ≤ (m : Int) - a := by omega
                    simp (disch := omega) [hqI, hlrI, hwbI]
                    rw [show L.length = L'.length by omega]
                    refine ih (m - a) (by omega) a m lc L' N' _ rfl k' (by omega) (by omega) (by omega) (by omega) hlc2 (fun h1 y h2 h3 => hm'.pa h1 y h2 (by have := hm'.l3; omega)) ?_
                    intro L'' N'' r1 r2 r3
                    rw [show L'.length = L.length by omega]
                    have hs2 := SP.left r1 q4 q5
                    simp (disch := omega)
                    refine Rnd.mk' (m + 1, e, lc, L'', true, tt) (by simp only; omega) (by (repeat (first | exact km | refine kp rfl ?_ | refine km' rfl ?_))) (by simp (disch := omega)) ⟨(sub_other sc').trans r3, hsp'.trans (r1.mono hm'.l1 (by have := hm'.l3; omega)), (hm'.sp (r1.mono (Nat.le_refl _) (by omega))).goR q1 q2 r2 hs2.1 hs2.2, hlc2⟩
                  · have hwbI : ¬ (q : Int) ≤ (m : Int) - a := by omega
                    simp (disch := omega) [hqI, hlrI, hwbI]
                    rw [show L.length = L'.length by omega]
                    refine ih (m - a) (by omega) a m lc L' N' _ rfl k' (by omega) (by omega) (by omega) (by omega) hlc2 (fun h1 y h2 h3 => hm'.pa h1 y h2 (by have := hm'.l3; omega)) ?_
                    intro L'' N'' r1 r2 r3
                    rw [show L'.length = L.length by omega]
                    have hs2 := SP.left r1 q4 q5
                    simp (disch := omega)
                    refine Rnd.mk' (m + 1, e, lc, L'', false, tt) (by simp only; omega) (by (repeat (first | exact km | refine kp rfl ?_ | refine km' rfl ?_))) (by simp (disch := omega)) ⟨(sub_other sc').trans r3, hsp'.trans (r1.mono hm'.l1 (by have := hm'.l3; omega)), (hm'.sp (r1.mono (Nat.le_refl _) (by omega))).goR q1 q2 r2 hs2.1 hs2.2, hlc2⟩
                · have hlrI : ¬ (m : Int) - a < (e : Int) - m := by omega
                  have hmp : (m : Int) + 1 = ((m + 1 : Nat) : Int) := by omega
                  by_cases hwb : q ≤ e - m
                  · have hwbI : (q : Int) ≤ (e : Int) - m := by omega
                    simp (disch := omega) [hqI, hlrI, hwbI]
                    rw [hmp, show L.length = L'.length by omega]
                    refine ih (e - (m + 1)) (by omega) (m + 1) e lc L' N' _ rfl k' (by omega) (by omega) (by omega) (by omega) hlc2 (fun h1 y h2 h3 => q5 y (by omega) h3) ?_
                    intro L'' N'' r1 r2 r3
                    rw [show L'.length = L.length by omega]
                    have hs2 := SP.right r1 q4 q5
                    simp (disch := omega)
                    refine Rnd.mk' (a, m, lc, L'', true, tt) (by simp only; omega) (by (repeat (first | exact km | refine kp rfl ?_ | refine km' rfl ?_))) (by simp (disch := omega)) ⟨(sub_other sc').trans r3, hsp'.trans (r1.mono (by have := hm'.l1; omega) hm'.l3), (hm'.sp (r1.mono (by omega) (Nat.le_refl _))).goL q1 q2 r2 hs2.1 hs2.2, hlc2⟩
                  · have hwbI : ¬ (q : Int) ≤ (e : Int) - m := by omega
                    simp (disch := omega) [hqI, hlrI, hwbI]
                    rw [hmp, show L.length = L'.length by omega]
                    refine ih (e - (m + 1)) (by omega) (m + 1) e lc L' N' _ rfl k' (by omega) (by omega) (by omega) (by omega) hlc2 (fun h1 y h2 h3 => q5 y (by omega) h3) ?_
                    intro L'' N'' r1 r2 r3
                    rw [show L'.length = L.length by omega]
                    have hs2 := SP.right r1 q4 q5
                    simp (disch := omega)
                    refine Rnd.mk' (a, m, lc, L'', false, tt) (by simp only; omega) (by (repeat (first | exact km | refine kp rfl ?_ | refine km' rfl ?_))) (by simp (disch := omega)) ⟨(sub_other sc').trans r3, hsp'.trans (r1.mono (by have := hm'.l1; omega) hm'.l3), (hm'.sp (r1.mono (by omega) (Nat.le_refl _))).goL q1 q2 r2 hs2.1 hs2.2, hlc2⟩
              · rw [decide_eq_false hk]
                simp (disch := omega)
                rw [show L.length = Lc.length by omega]
                refine partitionEq_does b c a e pc Lc _ _ kc (by omega) (by omega) (by omega) (by omega) hp1 hp2 ?_
                intro L' m q1 q2 q3 q4 q5
                rw [show Lc.length = L.length by omega]
                have hm' := hmc.sp q3
                have hge : ∀ y, a ≤ y → y < e → K Lc pc ≤ K L' y := q3.inn (fun v => K Lc pc ≤ v) fun i b1 b2 => by
                  have := hmc.pa (by omega) i b1 (by have := hmc.l3; omega)
                  rw [show a - 1 = a1 by omega] at this
                  omega
                simp (disch := omega)
                refine Rnd.mk' (m, e, lc, L', true, false) (by simp only; omega) (by (repeat (first | exact km | refine kp rfl ?_ | refine km' rfl ?_))) (by simp (disch := omega)) ⟨sub_other sc, hspc.trans (q3.mono hmc.l1 hmc.l3), hm'.goE q1 q2 q4 q5 hge, hlc2⟩
            · have ha0I : ¬ (0 : Int) < a := by omega
              refine draw_to tab_ok (by kernel_rfl) (by kernel_rfl) (by rfl) ?_
              simp (disch := omega) [ha0, ha0I, undef]
              rw [show L.length = Lc.length by omega]
              refine partition_does b c a e pc Lc _ _ kc (by omega) (by omega) (by omega) (by omega) hp1 hp2 ?_
              intro L' m tt q1 q2 q3 q4 q5
              rw [show Lc.length = L.length by omega]
              have hm' := hmc.sp q3
              have hsp' := hspc.trans (q3.mono hmc.l1 hmc.l3)
              have sc' := sub_other (B' := .cells true (bytesV L') c) sc
              have hl' := hsp'.len
              have k' := sc' _ _ (put_same _ _ _)
              generalize Nc.put b (.cells true (bytesV L') c) = N' at *
              by_cases hlr : m - a < e - m
              · have hlrI : (m : Int) - a < (e : Int) - m := by omega
                by_cases hwb : q ≤ m - a
                · have hwbI : (q : Int) ≤ (m : Int) - a := by omega
                  simp (disch := omega) [hqI, hlrI, hwbI]
                  rw [show L.length = L'.length by omega]
                  refine ih (m - a) (by omega) a m lc L' N' _ rfl k' (by omega) (by omega) (by omega) (by omega) hlc2 (fun h1 y h2 h3 => hm'.pa h1 y h2 (by have := hm'.l3; omega)) ?_
                  intro L'' N'' r1 r2 r3
                  rw [show L'.length = L.length by omega]
                  have hs2 := SP.left r1 q4 q5
                  simp (disch := omega)
                  refine Rnd.mk' (m + 1, e, lc, L'', true, tt) (by simp only; omega) (by (repeat (first | exact km | refine kp rfl ?_ | refine km' rfl ?_))) (by simp (disch := omega)) ⟨(sub_other sc').trans r3, hsp'.trans (r1.mono hm'.l1 (by have := hm'.l3; omega)), (hm'.sp (r1.mono (Nat.le_refl _) (by omega))).goR q1 q2 r2 hs2.1 hs2.2, hlc2⟩
                · have hwbI : ¬ (q : Int) ≤ (m : Int) - a := by omega
                  simp (disch := omega) [hqI, hlrI, hwbI]
                  rw [show L.length = L'.length by omega]
                  refine ih (m - a) (by omega) a m lc L' N' _ rfl k' (by omega) (by omega) (by omega) (by omega) hlc2 (fun h1 y h2 h3 => hm'.pa h1 y h2 (by have := hm'.l3; omega)) ?_
                  intro L'' N'' r1 r2 r3
                  rw [show L'.length = L.length by omega]
                  have hs2 := SP.left r1 q4 q5
                  simp (disch := omega)
                  refine Rnd.mk' (m + 1, e, lc, L'', false, tt) (by simp only; omega) (by (repeat (first | exact km | refine kp rfl ?_ | refine km' rfl ?_))) (by simp (disch := omega)) ⟨(sub_other sc').trans r3, hsp'.trans (r1.mono hm'.l1 (by have := hm'.l3; omega)), (hm'.sp (r1.mono (Nat.le_refl _) (by omega))).goR q1 q2 r2 hs2.1 hs2.2, hlc2⟩
              · have hlrI : ¬ (m : Int) - a < (e : Int) - m := by omega
                have hmp : (m : Int) + 1 = ((m + 1 : Nat) : Int) := by omega
                by_cases hwb : q ≤ e - m
                · have hwbI : (q : Int) ≤ (e : Int) - m := by omega
                  simp (disch := omega) [hqI, hlrI, hwbI]
                  rw [hmp, show L.length = L'.length by omega]
                  refine ih (e - (m + 1)) (by omega) (m + 1) e lc L' N' _ rfl k' (by omega) (by omega) (by omega) (by omega) hlc2 (fun h1 y h2 h3 => q5 y (by omega) h3) ?_
                  intro L'' N'' r1 r2 r3
                  rw [show L'.length = L.length by omega]
                  have hs2 := SP.right r1 q4 q5
                  simp (disch := omega)
                  refine Rnd.mk' (a, m, lc, L'', true, tt) (by simp only; omega) (by (repeat (first | exact km | refine kp rfl ?_ | refine km' rfl ?_))) (by simp (disch := omega)) ⟨(sub_other sc').trans r3, hsp'.trans (r1.mono (by have := hm'.l1; omega) hm'.l3), (hm'.sp (r1.mono (by omega) (Nat.le_refl _))).goL q1 q2 r2 hs2.1 hs2.2, hlc2⟩
                · have hwbI : ¬ (q : Int) ≤ (e : Int) - m := by omega
                  simp (disch := omega) [hqI, hlrI, hwbI]
                  rw [hmp, show L.length = L'.length by omega]
                  refine ih (e - (m + 1)) (by omega) (m + 1) e lc L' N' _ rfl k' (by omega) (by omega) (by omega) (by omega) hlc2 (fun h1 y h2 h3 => q5 y (by omega) h3) ?_
                  intro L'' N'' r1 r2 r3
                  rw [show L'.length = L.length by omega]
                  have hs2 := SP.right r1 q4 q5
                  simp (disch := omega)
                  refine Rnd.mk' (a, m, lc, L'', false, tt) (by simp only; omega) (by (repeat (first | exact km | refine kp rfl ?_ | refine km' rfl ?_))) (by simp (disch := omega)) ⟨(sub_other sc').trans r3, hsp'.trans (r1.mono (by have := hm'.l1; omega) hm'.l3), (hm'.sp (r1.mono (by omega) (Nat.le_refl _))).goL q1 q2 r2 hs2.1 hs2.2, hlc2⟩
          · simp (disch := omega)
            clear hlc
            have hlc := hspc.len
            have kc := sc _ _ (put_same _ _ _)
            rw [show L.length = Lc.length by omega]
            refine partialIns_does b c a e Lc _ _ kc (by omega) (by omega) (by omega) (by omega) (fun h1 y h2 h3 => hmc.pa h1 y h2 (by have := hmc.l3; omega)) ?_
            intro L' tq q1 q2
            rw [show Lc.length = L.length by omega]
            have hmc := hmc.sp q1
            have hspc := hspc.trans (q1.mono hmc.l1 hmc.l3)
            have sc := sub_other (B' := .cells true (bytesV L') c) sc
            clear kc hlc
            generalize Nc.put b (.cells true (bytesV L') c) = Nc at *
            generalize L' = Lc at *
            cases tq
            · simp (disch := omega)
              have hlc := hspc.len
              have kc := sc _ _ (put_same _ _ _)
              have xp := getK kc (i := pc) (by omega)
              by_cases ha0 : 0 < a
              · have ha0I : (0 : Int) < a := by omega
                obtain ⟨a1, ha1⟩ : ∃ a1 : Nat, a = a1 + 1 := ⟨a - 1, by omega⟩
                have ha1I : (a : Int) - 1 = a1 := by omega
                have xa := getK kc (i := a1) (by omega)
                refine draw_to tab_ok (by kernel_rfl) (by kernel_rfl) (by rfl) ?_
                simp (disch := omega) [ha0, ha0I, ha1I, xp, xa]
                refine vQCall_at (a := []) (c := []) (lessB_does _ _ _ _ ⟨rfl, rfl⟩) ?_
                by_cases hk : K Lc a1 < K Lc pc
                · rw [decide_eq_true hk]
                  simp (disch := omega)
                  rw [show L.length = Lc.length by omega]
                  refine partition_does b c a e pc Lc _ _ kc (by omega) (by omega) (by omega) (by omega) hp1 hp2 ?_
                  intro L' m tt q1 q2 q3 q4 q5
                  rw [show Lc.length = L.length by omega]
                  have hm' := hmc.sp q3
                  have hsp' := hspc.trans (q3.mono hmc.l1 hmc.l3)
                  have sc' := sub_other (B' := .cells true (bytesV L') c) sc
                  have hl' := hsp'.len
                  have k' := sc' _ _ (put_same _ _ _)
                  generalize Nc.put b (.cells true (bytesV L') c) = N' at *
                  by_cases hlr : m - a < e - m
                  · have hlrI : (m : Int) - a < (e : Int) - m := by omega
                    by_cases hwb : q ≤ m - a
                    · have hwbI : (q : Int) ≤ (m : Int) - a := by omega
                      simp (disch := omega) [hqI, hlrI, hwbI]
                      rw [show L.length = L'.length by omega]
                      refine ih (m - a) (by omega) a m lc L' N' _ rfl k' (by omega) (by omega) (by omega) (by omega) hlc2 (fun h1 y h2 h3 => hm'.pa h1 y h2 (by have := hm'.l3; omega)) ?_
                      intro L'' N'' r1 r2 r3
                      rw [show L'.length = L.length by omega]
                      have hs2 := SP.left r1 q4 q5
                      simp (disch := omega)
                      refine Rnd.mk' (m + 1, e, lc, L'', true, tt) (by simp only; omega) (by (repeat (first | exact km | refine kp rfl ?_ | refine km' rfl ?_))) (by simp (disch := omega)) ⟨(sub_other sc').trans r3, hsp'.trans (r1.mono hm'.l1 (by have := hm'.l3; omega)), (hm'.sp (r1.mono (Nat.le_refl _) (by omega))).goR q1 q2 r2 hs2.1 hs2.2, hlc2⟩
                    · have hwbI : ¬ (q : Int) ≤ (m : Int) - a := by omega
                      simp (disch := omega) [hqI, hlrI, hwbI]
                      rw [show L.length = L'.length by omega]
                      refine ih (m - a) (by omega) a m lc L' N' _ rfl k' (by omega) (by omega) (by omega) (by omega) hlc2 (fun h1 y h2 h3 => hm'.pa h1 y h2 (by have := hm'.l3; omega)) ?_
                      intro L'' N'' r1 r2 r3
                      rw [show L'.length = L.length by omega]
                      have hs2 := SP.left r1 q4 q5
                      simp (disch := omega)
                      refine Rnd.mk' (m + 1, e, lc, L'', false, tt) (by simp only; omega) (by (repeat (first | exact km | refine kp rfl ?_ | refine km' rfl ?_))) (by simp (disch := omega)) ⟨(sub_other sc').trans r3, hsp'.trans (r1.mono hm'.l1 (by have := hm'.l3; omega)), (hm'.sp (r1.mono (Nat.le_refl _) (by omega))).goR q1 q2 r2 hs2.1 hs2.2, hlc2⟩
                  · have hlrI : ¬ (m : Int) - a < (e : Int) - m := by omega
                    have hmp : (m : Int) + 1 = ((m + 1 : Nat) : Int) := by omega
                    by_cases hwb : q ≤ e - m
                    · have hwbI : (q : Int) ≤ (e : Int) - m := by omega
                      simp (disch := omega) [hqI, hlrI, hwbI]
                      rw [hmp, show L.length = L'.length by omega]
                      refine ih (e - (m + 1)) (by omega) (m + 1) e lc L' N' _ rfl k' (by omega) (by omega) (by omega) (by omega) hlc2 (fun h1 y h2 h3 => q5 y (by omega) h3) ?_
                      intro L'' N'' r1 r2 r3
                      rw [show L'.length = L.length by omega]
                      have hs2 := SP.right r1 q4 q5
                      simp (disch := omega)
                      refine Rnd.mk' (a, m, lc, L'', true, tt) (by simp only; omega) (by (repeat (first | exact km | refine kp rfl ?_ | refine km' rfl ?_))) (by simp (disch := omega)) ⟨(sub_other sc').trans r3, hsp'.trans (r1.mono (by have := hm'.l1; omega) hm'.l3), (hm'.sp (r1.mono (by omega) (Nat.le_refl _))).goL q1 q2 r2 hs2.1 hs2.2, hlc2⟩
                    · have hwbI : ¬ (q : Int) ≤ (e : Int) - m := by omega
                      simp (disch := omega) [hqI, hlrI, hwbI]
                      rw [hmp, show L.length = L'.length by omega]
                      refine ih (e - (m + 1)) (by omega) (m + 1) e lc L' N' _ rfl k' (by omega) (by omega) (by omega) (by omega) hlc2 (fun h1 y h2 h3 => q5 y (by omega) h3) ?_
                      intro L'' N'' r1 r2 r3
                      rw [show L'.length = L.length by omega]
                      have hs2 := SP.right r1 q4 q5
                      simp (disch := omega)
                      refine Rnd.mk' (a, m, lc, L'', false, tt) (by simp only; omega) (by (repeat (first | exact km | refine kp rfl ?_ | refine km' rfl ?_))) (by simp (disch := omega)) ⟨(sub_other sc').trans r3, hsp'.trans (r1.mono (by have := hm'.l1; omega) hm'.l3), (hm'.sp (r1.mono (by omega) (Nat.le_refl _))).goL q1 q2 r2 hs2.1 hs2.2, hlc2⟩
                · rw [decide_eq_false hk]
                  simp (disch := omega)
                  rw [show L.length = Lc.length by omega]
                  refine partitionEq_does b c a e pc Lc _ _ kc (by omega) (by omega) (by omega) (by omega) hp1 hp2 ?_
                  intro L' m q1 q2 q3 q4 q5
                  rw [show Lc.length = L.length by omega]
                  have hm' := hmc.sp q3
                  have hge : ∀ y, a ≤ y → y < e → K Lc pc ≤ K L' y := q3.inn (fun v => K Lc pc ≤ v) fun i b1 b2 => by
                    have := hmc.pa (by omega) i b1 (by have := hmc.l3; omega)
                    rw [show a - 1 = a1 by omega] at this
                    omega
                  simp (disch := omega)
                  refine Rnd.mk' (m, e, lc, L', true, true) (by simp only; omega) (by (repeat (first | exact km | refine kp rfl ?_ | refine km' rfl ?_))) (by simp (disch := omega)) ⟨sub_other sc, hspc.trans (q3.mono hmc.l1 hmc.l3), hm'.goE q1 q2 q4 q5 hge, hlc2⟩
              · have ha0I : ¬ (0 : Int) < a := by omega
                refine draw_to tab_ok (by kernel_rfl) (by kernel_rfl) (by rfl) ?_
                simp (disch := omega) [ha0, ha0I, undef]
                rw [show L.length = Lc.length by omega]
                refine partition_does b c a e pc Lc _ _ kc (by omega) (by omega) (by omega) (by omega) hp1 hp2 ?_
                intro L' m tt q1 q2 q3 q4 q5
                rw [show Lc.length = L.length by omega]
                have hm' := hmc.sp q3
                have hsp' := hspc.trans (q3.mono hmc.l1 hmc.l3)
                have sc' := sub_other (B' := .cells true (bytesV L') c) sc
                have hl' := hsp'.len
                have k' := sc' _ _ (put_same _ _ _)
                generalize Nc.put b (.cells true (bytesV L') c) = N' at *
                by_cases hlr : m - a < e - m
                · have hlrI : (m : Int) - a < (e : Int) - m := by omega
                  by_cases hwb : q ≤ m - a
                  · have hwbI : (q : Int) ≤ (m : Int) - a := by omega
                    simp (disch := omega) [hqI, hlrI, hwbI]
                    rw [show L.length = L'.length by omega]
                    refine ih (m - a) (by omega) a m lc L' N' _ rfl k' (by omega) (by omega) (by omega) (by omega) hlc2 (fun h1 y h2 h3 => hm'.pa h1 y h2 (by have := hm'.l3; omega)) ?_
                    intro L'' N'' r1 r2 r3
                    rw [show L'.length = L.length by omega]
                    have hs2 := SP.left r1 q4 q5
                    simp (disch := omega)
                    refine Rnd.mk' (m + 1, e, lc, L'', true, tt) (by simp only; omega) (by (repeat (first | exact km | refine kp rfl ?_ | refine km' rfl ?_))) (by simp (disch := omega)) ⟨(sub_other sc').trans r3, hsp'.trans (r1.mono hm'.l1 (by have := hm'.l3; omega)), (hm'.sp (r1.mono (Nat.le_refl _) (by omega))).goR q1 q2 r2 hs2.1 hs2.2, hlc2⟩
                  · have hwbI : ¬ (q : Int) ≤ (m : Int) - a := by omega
                    simp (disch := omega) [hqI, hlrI, hwbI]
                    rw [show L.length = L'.length by omega]
                    refine ih (m - a) (by omega) a m lc L' N' _ rfl k' (by omega) (by omega) (by omega) (by omega) hlc2 (fun h1 y h2 h3 => hm'.pa h1 y h2 (by have := hm'.l3; omega)) ?_
                    intro L'' N'' r1 r2 r3
                    rw [show L'.length = L.length by omega]
                    have hs2 := SP.left r1 q4 q5
                    simp (disch := omega)
                    refine Rnd.mk' (m + 1, e, lc, L'', false, tt) (by simp only; omega) (by (repeat (first | exact km | refine kp rfl ?_ | refine km' rfl ?_))) (by simp (disch := omega)) ⟨(sub_other sc').trans r3, hsp'.trans (r1.mono hm'.l1 (by have := hm'.l3; omega)), (hm'.sp (r1.mono (Nat.le_refl _) (by omega))).goR q1 q2 r2 hs2.1 hs2.2, hlc2⟩
                · have hlrI : ¬ (m : Int) - a < (e : Int) - m := by omega
                  have hmp : (m : Int) + 1 = ((m + 1 : Nat) : Int) := by omega
                  by_cases hwb : q ≤ e - m
                  · have hwbI : (q : Int) ≤ (e : Int) - m := by omega
                    simp (disch := omega) [hqI, hlrI, hwbI]
                    rw [hmp, show L.length = L'.length by omega]
                    refine ih (e - (m + 1)) (by omega) (m + 1) e lc L' N' _ rfl k' (by omega) (by omega) (by omega) (by omega) hlc2 (fun h1 y h2 h3 => q5 y (by omega) h3) ?_
                    intro L'' N'' r1 r2 r3
                    rw [show L'.length = L.length by omega]
                    have hs2 := SP.right r1 q4 q5
                    simp (disch := omega)
                    refine Rnd.mk' (a, m, lc, L'', true, tt) (by simp only; omega) (by (repeat (first | exact km | refine kp rfl ?_ | refine km' rfl ?_))) (by simp (disch := omega)) ⟨(sub_other sc').trans r3, hsp'.trans (r1.mono (by have := hm'.l1; omega) hm'.l3), (hm'.sp (r1.mono (by omega) (Nat.le_refl _))).goL q1 q2 r2 hs2.1 hs2.2, hlc2⟩
                  · have hwbI : ¬ (q : Int) ≤ (e : Int) - m := by omega
                    simp (disch := omega) [hqI, hlrI, hwbI]
                    rw [hmp, show L.length = L'.length by omega]
                    refine ih (e - (m + 1)) (by omega) (m + 1) e lc L' N' _ rfl k' (by omega) (by omega) (by omega) (by omega) hlc2 (fun h1 y h2 h3 => q5 y (by omega) h3) ?_
                    intro L'' N'' r1 r2 r3
                    rw [show L'.length = L.length by omega]
                    have hs2 := SP.right r1 q4 q5
                    simp (disch := omega)
                    refine Rnd.mk' (a, m, lc, L'', false, tt) (by simp only; omega) (by (repeat (first | exact km | refine kp rfl ?_ | refine km' rfl ?_))) (by simp (disch := omega)) ⟨(sub_other sc').trans r3, hsp'.trans (r1.mono (by have := hm'.l1; omega) hm'.l3), (hm'.sp (r1.mono (by omega) (Nat.le_refl _))).goL q1 q2 r2 hs2.1 hs2.2, hlc2⟩
            · simp (disch := omega)
              exact ret_of (h Lc Nc hspc (hmc.fin (q2 rfl)) sc)
        · have kc := sc _ _ (put_same _ _ _)
          simp (disch := omega)
          rw [show L.length = Lc.length by omega]
          refine reverseRange_does b c a e Lc _ _ kc (by omega) (by omega) (by omega) (by omega) ?_
          intro L' q1
          rw [show Lc.length = L.length by omega]
          have hmc := hmc.sp q1
          have hspc := hspc.trans (q1.mono hmc.l1 hmc.l3)
          have sc := sub_other (B' := .cells true (bytesV L') c) sc
          clear kc hlc
          generalize Nc.put b (.cells true (bytesV L') c) = Nc at *
          generalize L' = Lc at *
          obtain ⟨p', hp'⟩ : ∃ p' : Nat, p' = (e - 1) - (pc - a) := ⟨_, rfl⟩
          have hpI : (e : Int) - 1 - ((pc : Int) - a) = p' := by omega
          have hp1 : a ≤ p' := by omega
          have hp2 : p' < e := by omega
          cases wp
          · simp (disch := omega) [hpI]
            clear hp'
            generalize p' = pc at *
            have hlc := hspc.len
            have kc := sc _ _ (put_same _ _ _)
            have xp := getK kc (i := pc) (by omega)
            by_cases ha0 : 0 < a
            · have ha0I : (0 : Int) < a := by omega
              obtain ⟨a1, ha1⟩ : ∃ a1 : Nat, a = a1 + 1 := ⟨a - 1, by omega⟩
              have ha1I : (a : Int) - 1 = a1 := by omega
              have xa := getK kc (i := a1) (by omega)
              refine draw_to tab_ok (by kernel_rfl) (by kernel_rfl) (by rfl) ?_
              simp (disch := omega) [ha0, ha0I, ha1I, xp, xa]
              refine vQCall_at (a := []) (c := []) (lessB_does _ _ _ _ ⟨rfl, rfl⟩) ?_
              by_cases hk : K Lc a1 < K Lc pc
              · rw [decide_eq_true hk]
                simp (disch := omega)
                rw [show L.length = Lc.length by omega]
                refine partition_does b c a e pc Lc _ _ kc (by omega) (by omega) (by omega) (by omega) hp1 hp2 ?_
                intro L' m tt q1 q2 q3 q4 q5
                rw [show Lc.length = L.length by omega]
                have hm' := hmc.sp q3
                have hsp' := hspc.trans (q3.mono hmc.l1 hmc.l3)
                have sc' := sub_other (B' := .cells true (bytesV L') c) sc
                have hl' := hsp'.len
                have k' := sc' _ _ (put_same _ _ _)
                generalize Nc.put b (.cells true (bytesV L') c) = N' at *
                by_cases hlr : m - a < e - m
                · have hlrI : (m : Int) - a < (e : Int) - m := by omega
                  by_cases hwb : q ≤ m - a
                  · have hwbI : (q : Int) ≤ (m : Int) - a := by omega
                    simp (disch := omega) [hqI, hlrI, hwbI]
                    rw [show L.length = L'.length by omega]
                    refine ih (m - a) (by omega) a m lc L' N' _ rfl k' (by omega) (by omega) (by omega) (by omega) hlc2 (fun h1 y h2 h3 => hm'.pa h1 y h2 (by have := hm'.l3; omega)) ?_
                    intro L'' N'' r1 r2 r3
                    rw [show L'.length = L.length by omega]
                    have hs2 := SP.left r1 q4 q5
                    simp (disch := omega)
                    refine Rnd.mk' (m + 1, e, lc, L'', true, tt) (by simp only; omega) (by (repeat (first | exact km | refine kp rfl ?_ | refine km' rfl ?_))) (by simp (disch := omega)) ⟨(sub_other sc').trans r3, hsp'.trans (r1.mono hm'.l1 (by have := hm'.l3; omega)), (hm'.sp (r1.mono (Nat.le_refl _) (by omega))).goR q1 q2 r2 hs2.1 hs2.2, hlc2⟩
                  · have hwbI : ¬ (q : Int) ≤ (m : Int) - a := by omega
                    simp (disch := omega) [hqI, hlrI, hwbI]
                    rw [show L.length = L'.length by omega]
                    refine ih (m - a) (by omega) a m lc L' N' _ rfl k' (by omega) (by omega) (by omega) (by omega) hlc2 (fun h1 y h2 h3 => hm'.pa h1 y h2 (by have := hm'.l3; omega)) ?_
                    intro L'' N'' r1 r2 r3
                    rw [show L'.length = L.length by omega]
                    have hs2 := SP.left r1 q4 q5
                    simp (disch := omega)
                    refine Rnd.mk' (m + 1, e, lc, L'', false, tt) (by simp only; omega) (by (repeat (first | exact km | refine kp rfl ?_ | refine km' rfl ?_))) (by simp (disch := omega)) ⟨(sub_other sc').trans r3, hsp'.trans (r1.mono hm'.l1 (by have := hm'.l3; omega)), (hm'.sp (r1.mono (Nat.le_refl _) (by omega))).goR q1 q2 r2 hs2.1 hs2.2, hlc2⟩
                · have hlrI : ¬ (m : Int) - a < (e : Int) - m := by omega
                  have hmp : (m : Int) + 1 = ((m + 1 : Nat) : Int) := by omega
                  by_cases hwb : q ≤ e - m
                  · have hwbI : (q : Int) ≤ (e : Int) - m := by omega
                    simp (disch := omega) [hqI, hlrI, hwbI]
                    rw [hmp, show L.length = L'.length by omega]
                    refine ih (e - (m + 1)) (by omega) (m + 1) e lc L' N' _ rfl k' (by omega) (by omega) (by omega) (by omega) hlc2 (fun h1 y h2 h3 => q5 y (by omega) h3) ?_
                    intro L'' N'' r1 r2 r3
                    rw [show L'.length = L.length by omega]
                    have hs2 := SP.right r1 q4 q5
                    simp (disch := omega)
                    refine Rnd.mk' (a, m, lc, L'', true, tt) (by simp only; omega) (by (repeat (first | exact km | refine kp rfl ?_ | refine km' rfl ?_))) (by simp (disch := omega)) ⟨(sub_other sc').trans r3, hsp'.trans (r1.mono (by have := hm'.l1; omega) hm'.l3), (hm'.sp (r1.mono (by omega) (Nat.le_refl _))).goL q1 q2 r2 hs2.1 hs2.2, hlc2⟩
                  · have hwbI : ¬ (q : Int) ≤ (e : Int) - m := by omega
                    simp (disch := omega) [hqI, hlrI, hwbI]
                    rw [hmp, show L.length = L'.length by omega]
                    refine ih (e - (m + 1)) (by omega) (m + 1) e lc L' N' _ rfl k' (by omega) (by omega) (by omega) (by omega) hlc2 (fun h1 y h2 h3 => q5 y (by omega) h3) ?_
                    intro L'' N'' r1 r2 r3
                    rw [show L'.length = L.length by omega]
                    have hs2 := SP.right r1 q4 q5
                    simp (disch := omega)
                    refine Rnd.mk' (a, m, lc, L'', false, tt) (by simp only; omega) (by (repeat (first | exact km | refine kp rfl ?_ | refine km' rfl ?_))) (by simp (disch := omega)) ⟨(sub_other sc').trans r3, hsp'.trans (r1.mono (by have := hm'.l1; omega) hm'.l3), (hm'.sp (r1.mono (by omega) (Nat.le_refl _))).goL q1 q2 r2 hs2.1 hs2.2, hlc2⟩
              · rw [decide_eq_false hk]
                simp (disch := omega)
                rw [show L.length = Lc.length by omega]
                refine partitionEq_does b c a e pc Lc _ _ kc (by omega) (by omega) (by omega) (by omega) hp1 hp2 ?_
                intro L' m q1 q2 q3 q4 q5
                rw [show Lc.length = L.length by omega]
                have hm' := hmc.sp q3
                have hge : ∀ y, a ≤ y → y < e → K Lc pc ≤ K L' y := q3.inn (fun v => K Lc pc ≤ v) fun i b1 b2 => by
                  have := hmc.pa (by omega) i b1 (by have := hmc.l3; omega)
                  rw [show a - 1 = a1 by omega] at this
                  omega
                simp (disch := omega)
                refine Rnd.mk' (m, e, lc, L', true, false) (by simp only; omega) (by (repeat (first | exact km | refine kp rfl ?_ | refine km' rfl ?_))) (by simp (disch := omega)) ⟨sub_other sc, hspc.trans (q3.mono hmc.l1 hmc.l3), hm'.goE q1 q2 q4 q5 hge, hlc2⟩
            · have ha0I : ¬ (0 : Int) < a := by omega
              refine draw_to tab_ok (by kernel_rfl) (by kernel_rfl) (by rfl) ?_
              simp (disch := omega) [ha0, ha0I, undef]
              rw [show L.length = Lc.length by omega]
              refine partition_does b c a e pc Lc _ _ kc (by omega) (by omega) (by omega) (by omega) hp1 hp2 ?_
              intro L' m tt q1 q2 q3 q4 q5
              rw [show Lc.length = L.length by omega]
              have hm' := hmc.sp q3
              have hsp' := hspc.trans (q3.mono hmc.l1 hmc.l3)
              have sc' := sub_other (B' := .cells true (bytesV L') c) sc
              have hl' := hsp'.len
              have k' := sc' _ _ (put_same _ _ _)
              generalize Nc.put b (.cells true (bytesV L') c) = N' at *
              by_cases hlr : m - a < e - m
              · have hlrI : (m : Int) - a < (e : Int) - m := by omega
                by_cases hwb : q ≤ m - a
                · have hwbI : (q : Int) ≤ (m : Int) - a := by omega
                  simp (disch := omega) [hqI, hlrI, hwbI]
                  rw [show L.length = L'.length by omega]
                  refine ih (m - a) (by omega) a m lc L' N' _ rfl k' (by omega) (by omega) (by omega) (by omega) hlc2 (fun h1 y h2 h3 => hm'.pa h1 y h2 (by have := hm'.l3; omega)) ?_
                  intro L'' N'' r1 r2 r3
                  rw [show L'.length = L.length by omega]
                  have hs2 := SP.left r1 q4 q5
                  simp (disch := omega)
                  refine Rnd.mk' (m + 1, e, lc, L'', true, tt) (by simp only; omega) (by (repeat (first | exact km | refine kp rfl ?_ | refine km' rfl ?_))) (by simp (disch := omega)) ⟨(sub_other sc').trans r3, hsp'.trans (r1.mono hm'.l1 (by have := hm'.l3; omega)), (hm'.sp (r1.mono (Nat.le_refl _) (by omega))).goR q1 q2 r2 hs2.1 hs2.2, hlc2⟩
                · have hwbI : ¬ (q : Int) ≤ (m : Int) - a := by omega
                  simp (disch := omega) [hqI, hlrI, hwbI]
                  rw [show L.length = L'.length by omega]
                  refine ih (m - a) (by omega) a m lc L' N' _ rfl k' (by omega) (by omega) (by omega) (by omega) hlc2 (fun h1 y h2 h3 => hm'.pa h1 y h2 (by have := hm'.l3; omega)) ?_
                  intro L'' N'' r1 r2 r3
                  rw [show L'.length = L.length by omega]
                  have hs2 := SP.left r1 q4 q5
                  simp (disch := omega)
                  refine Rnd.mk' (m + 1, e, lc, L'', false, tt) (by simp only; omega) (by (repeat (first | exact km | refine kp rfl ?_ | refine km' rfl ?_))) (by simp (disch := omega)) ⟨(sub_other sc').trans r3, hsp'.trans (r1.mono hm'.l1 (by have := hm'.l3; omega)), (hm'.sp (r1.mono (Nat.le_refl _) (by omega))).goR q1 q2 r2 hs2.1 hs2.2, hlc2⟩
              · have hlrI : ¬ (m : Int) - a < (e : Int) - m := by omega
                have hmp : (m : Int) + 1 = ((m + 1 : Nat) : Int) := by omega
                by_cases hwb : q ≤ e - m
                · have hwbI : (q : Int) ≤ (e : Int) - m := by omega
                  simp (disch := omega) [hqI, hlrI, hwbI]
                  rw [hmp, show L.length = L'.length by omega]
                  refine ih (e - (m + 1)) (by omega) (m + 1) e lc L' N' _ rfl k' (by omega) (by omega) (by omega) (by omega) hlc2 (fun h1 y h2 h3 => q5 y (by omega) h3) ?_
                  intro L'' N'' r1 r2 r3
                  rw [show L'.length = L.length by omega]
                  have hs2 := SP.right r1 q4 q5
                  simp (disch := omega)
                  refine Rnd.mk' (a, m, lc, L'', true, tt) (by simp only; omega) (by (repeat (first | exact km | refine kp rfl ?_ | refine km' rfl ?_))) (by simp (disch := omega)) ⟨(sub_other sc').trans r3, hsp'.trans (r1.mono (by have := hm'.l1; omega) hm'.l3), (hm'.sp (r1.mono (by omega) (Nat.le_refl _))).goL q1 q2 r2 hs2.1 hs2.2, hlc2⟩
                · have hwbI : ¬ (q : Int) ≤ (e : Int) - m := by omega
                  simp (disch := omega) [hqI, hlrI, hwbI]
                  rw [hmp, show L.length = L'.length by omega]
                  refine ih (e - (m + 1)) (by omega) (m + 1) e lc L' N' _ rfl k' (by omega) (by omega) (by omega) (by omega) hlc2 (fun h1 y h2 h3 => q5 y (by omega) h3) ?_
                  intro L'' N'' r1 r2 r3
                  rw [show L'.length = L.length by omega]
                  have hs2 := SP.right r1 q4 q5
                  simp (disch := omega)
                  refine Rnd.mk' (a, m, lc, L'', false, tt) (by simp only; omega) (by (repeat (first | exact km | refine kp rfl ?_ | refine km' rfl ?_))) (by simp (disch := omega)) ⟨(sub_other sc').trans r3, hsp'.trans (r1.mono (by have := hm'.l1; omega) hm'.l3), (hm'.sp (r1.mono (by omega) (Nat.le_refl _))).goL q1 q2 r2 hs2.1 hs2.2, hlc2⟩
          · simp (disch := omega) [hpI]
            clear hp'
            generalize p' = pc at *
            have hlc := hspc.len
            have kc := sc _ _ (put_same _ _ _)
            rw [show L.length = Lc.length by omega]
            refine partialIns_does b c a e Lc _ _ kc (by omega) (by omega) (by omega) (by omega) (fun h1 y h2 h3 => hmc.pa h1 y h2 (by have := hmc.l3; omega)) ?_
            intro L' tq q1 q2
            rw [show Lc.length = L.length by omega]
            have hmc := hmc.sp q1
            have hspc := hspc.trans (q1.mono hmc.l1 hmc.l3)
            have sc := sub_other (B' := .cells true (bytesV L') c) sc
            clear kc hlc
            generalize Nc.put b (.cells true (bytesV L') c) = Nc at *
            generalize L' = Lc at *
            cases tq
            · simp (disch := omega)
              have hlc := hspc.len
              have kc := sc _ _ (put_same _ _ _)
              have xp := getK kc (i := pc) (by omega)
              by_cases ha0 : 0 < a
              · have ha0I : (0 : Int) < a := by omega
                obtain ⟨a1, ha1⟩ : ∃ a1 : Nat, a = a1 + 1 := ⟨a - 1, by omega⟩
                have ha1I : (a : Int) - 1 = a1 := by omega
                have xa := getK kc (i := a1) (by omega)
                refine draw_to tab_ok (by kernel_rfl) (by kernel_rfl) (by rfl) ?_
                simp (disch := omega) [ha0, ha0I, ha1I, xp, xa]
                refine vQCall_at (a := []) (c := []) (lessB_does _ _ _ _ ⟨rfl, rfl⟩) ?_
                by_cases hk : K Lc a1 < K Lc pc
                · rw [decide_eq_true hk]
                  simp (disch := omega)
                  rw [show L.length = Lc.length by omega]
                  refine partition_does b c a e pc Lc _ _ kc (by omega) (by omega) (by omega) (by omega) hp1 hp2 ?_
                  intro L' m tt q1 q2 q3 q4 q5
                  rw [show Lc.length = L.length by omega]
                  have hm' := hmc.sp q3
                  have hsp' := hspc.trans (q3.mono hmc.l1 hmc.l3)
                  have sc' := sub_other (B' := .cells true (bytesV L') c) sc
                  have hl' := hsp'.len
                  have k' := sc' _ _ (put_same _ _ _)
                  generalize Nc.put b (.cells true (bytesV L') c) = N' at *
                  by_cases hlr : m - a < e - m
                  · have hlrI : (m : Int) - a < (e : Int) - m := by omega
                    by_cases hwb : q ≤ m - a
                    · have hwbI : (q : Int) ≤ (m : Int) - a := by omega
                      simp (disch := omega) [hqI, hlrI, hwbI]
                      rw [show L.length = L'.length by omega]
                      refine ih (m - a) (by omega) a m lc L' N' _ rfl k' (by omega) (by omega) (by omega) (by omega) hlc2 (fun h1 y h2 h3 => hm'.pa h1 y h2 (by have := hm'.l3; omega)) ?_
                      intro L'' N'' r1 r2 r3
                      rw [show L'.length = L.length by omega]
                      have hs2 := SP.left r1 q4 q5
                      simp (disch := omega)
                      refine Rnd.mk' (m + 1, e, lc, L'', true, tt) (by simp only; omega) (by (repeat (first | exact km | refine kp rfl ?_ | refine km' rfl ?_))) (by simp (disch := omega)) ⟨(sub_other sc').trans r3, hsp'.trans (r1.mono hm'.l1 (by have := hm'.l3; omega)), (hm'.sp (r1.mono (Nat.le_refl _) (by omega))).goR q1 q2 r2 hs2.1 hs2.2, hlc2⟩
                    · have hwbI : ¬ (q : Int) ≤ (m : Int) - a := by omega
                      simp (disch := omega) [hqI, hlrI, hwbI]
                      rw [show L.length = L'.length by omega]
                      refine ih (m - a) (by omega) a m lc L' N' _ rfl k' (by omega) (by omega) (by omega) (by omega) hlc2 (fun h1 y h2 h3 => hm'.pa h1 y h2 (by have := hm'.l3; omega)) ?_
                      intro L'' N'' r1 r2 r3
                      rw [show L'.length = L.length by omega]
                      have hs2 := SP.left r1 q4 q5
                      simp (disch := omega)
                      refine Rnd.mk' (m + 1, e, lc, L'', false, tt) (by simp only; omega) (by (repeat (first | exact km | refine kp rfl ?_ | refine km' rfl ?_))) (by simp (disch := omega)) ⟨(sub_other sc').trans r3, hsp'.trans (r1.mono hm'.l1 (by have := hm'.l3; omega)), (hm'.sp (r1.mono (Nat.le_refl _) (by omega))).goR q1 q2 r2 hs2.1 hs2.2, hlc2⟩
                  · have hlrI : ¬ (m : Int) - a < (e : Int) - m := by omega
                    have hmp : (m : Int) + 1 = ((m + 1 : Nat) : Int) := by omega
                    by_cases hwb : q ≤ e - m
                    · have hwbI : (q : Int) ≤ (e : Int) - m := by omega
                      simp (disch := omega) [hqI, hlrI, hwbI]
                      rw [hmp, show L.length = L'.length by omega]
                      refine ih (e - (m + 1)) (by omega) (m + 1) e lc L' N' _ rfl k' (by omega) (by omega) (by omega) (by omega) hlc2 (fun h1 y h2 h3 => q5 y (by omega) h3) ?_
                      intro L'' N'' r1 r2 r3
                      rw [show L'.length = L.length by omega]
                      have hs2 := SP.right r1 q4 q5
                      simp (disch := omega)
                      refine Rnd.mk' (a, m, lc, L'', true, tt) (by simp only; omega) (by (repeat (first | exact km | refine kp rfl ?_ | refine km' rfl ?_))) (by simp (disch := omega)) ⟨(sub_other sc').trans r3, hsp'.trans (r1.mono (by have := hm'.l1; omega) hm'.l3), (hm'.sp (r1.mono (by omega) (Nat.le_refl _))).goL q1 q2 r2 hs2.1 hs2.2, hlc2⟩
                    · have hwbI : ¬ (q : Int) ≤ (e : Int) - m := by omega
                      simp (disch := omega) [hqI, hlrI, hwbI]
                      rw [hmp, show L.length = L'.length by omega]
                      refine ih (e - (m + 1)) (by omega) (m + 1) e lc L' N' _ rfl k' (by omega) (by omega) (by omega) (by omega) hlc2 (fun h1 y h2 h3 => q5 y (by omega) h3) ?_
                      intro L'' N'' r1 r2 r3
                      rw [show L'.length = L.length by omega]
                      have hs2 := SP.right r1 q4 q5
                      simp (disch := omega)
                      refine Rnd.mk' (a, m, lc, L'', false, tt) (by simp only; omega) (by (repeat (first | exact km | refine kp rfl ?_ | refine km' rfl ?_))) (by simp (disch := omega)) ⟨(sub_other sc').trans r3, hsp'.trans (r1.mono (by have := hm'.l1; omega) hm'.l3), (hm'.sp (r1.mono (by omega) (Nat.le_refl _))).goL q1 q2 r2 hs2.1 hs2.2, hlc2⟩
                · rw [decide_eq_false hk]
                  simp (disch := omega)
                  rw [show L.length = Lc.length by omega]
                  refine partitionEq_does b c a e pc Lc _ _ kc (by omega) (by omega) (by omega) (by omega) hp1 hp2 ?_
                  intro L' m q1 q2 q3 q4 q5
                  rw [show Lc.length = L.length by omega]
                  have hm' := hmc.sp q3
                  have hge : ∀ y, a ≤ y → y < e → K Lc pc ≤ K L' y := q3.inn (fun v => K Lc pc ≤ v) fun i b1 b2 => by
                    have := hmc.pa (by omega) i b1 (by have := hmc.l3; omega)
                    rw [show a - 1 = a1 by omega] at this
                    omega
                  simp (disch := omega)
                  refine Rnd.mk' (m, e, lc, L', true, true) (by simp only; omega) (by (repeat (first | exact km | refine kp rfl ?_ | refine km' rfl ?_))) (by simp (disch := omega)) ⟨sub_other sc, hspc.trans (q3.mono hmc.l1 hmc.l3), hm'.goE q1 q2 q4 q5 hge, hlc2⟩
              · have ha0I : ¬ (0 : Int) < a := by omega
                refine draw_to tab_ok (by kernel_rfl) (by kernel_rfl) (by rfl) ?_
                simp (disch := omega) [ha0, ha0I, undef]
                rw [show L.length = Lc.length by omega]
                refine partition_does b c a e pc Lc _ _ kc (by omega) (by omega) (by omega) (by omega) hp1 hp2 ?_
                intro L' m tt q1 q2 q3 q4 q5
                rw [show Lc.length = L.length by omega]
                have hm' := hmc.sp q3
                have hsp' := hspc.trans (q3.mono hmc.l1 hmc.l3)
                have sc' := sub_other (B' := .cells true (bytesV L') c) sc
                have hl' := hsp'.len
                have k' := sc' _ _ (put_same _ _ _)
                generalize Nc.put b (.cells true (bytesV L') c) = N' at *
                by_cases hlr : m - a < e - m
                · have hlrI : (m : Int) - a < (e : Int) - m := by omega
                  by_cases hwb : q ≤ m - a
                  · have hwbI : (q : Int) ≤ (m : Int) - a := by omega
                    simp (disch := omega) [hqI, hlrI, hwbI]
                    rw [show L.length = L'.length by omega]
                    refine ih (m - a) (by omega) a m lc L' N' _ rfl k' (by omega) (by omega) (by omega) (by omega) hlc2 (fun h1 y h2 h3 => hm'.pa h1 y h2 (by have := hm'.l3; omega)) ?_
                    intro L'' N'' r1 r2 r3
                    rw [show L'.length = L.length by omega]
                    have hs2 := SP.left r1 q4 q5
                    simp (disch := omega)
                    refine Rnd.mk' (m + 1, e, lc, L'', true, tt) (by simp only; omega) (by (repeat (first | exact km | refine kp rfl ?_ | refine km' rfl ?_))) (by simp (disch := omega)) ⟨(sub_other sc').trans r3, hsp'.trans (r1.mono hm'.l1 (by have := hm'.l3; omega)), (hm'.sp (r1.mono (Nat.le_refl _) (by omega))).goR q1 q2 r2 hs2.1 hs2.2, hlc2⟩
                  · have hwbI : ¬ (q : Int) ≤ (m : Int) - a := by omega
                    simp (disch := omega) [hqI, hlrI, hwbI]
                    rw [show L.length = L'.length by omega]
                    refine ih (m - a) (by omega) a m lc L' N' _ rfl k' (by omega) (by omega) (by omega) (by omega) hlc2 (fun h1 y h2 h3 => hm'.pa h1 y h2 (by have := hm'.l3; omega)) ?_
                    intro L'' N'' r1 r2 r3
                    rw [show L'.length = L.length by omega]
                    have hs2 := SP.left r1 q4 q5
                    simp (disch := omega)
                    refine Rnd.mk' (m + 1, e, lc, L'', false, tt) (by simp only; omega) (by (repeat (first | exact km | refine kp rfl ?_ | refine km' rfl ?_))) (by simp (disch := omega)) ⟨(sub_other sc').trans r3, hsp'.trans (r1.mono hm'.l1 (by have := hm'.l3; omega)), (hm'.sp (r1.mono (Nat.le_refl _) (by omega))).goR q1 q2 r2 hs2.1 hs2.2, hlc2⟩
                · have hlrI : ¬ (m : Int) - a < (e : Int) - m := by omega
                  have hmp : (m : Int) + 1 = ((m + 1 : Nat) : Int) := by omega
                  by_cases hwb : q ≤ e - m
                  · have hwbI : (q : Int) ≤ (e : Int) - m := by omega
                    simp (disch := omega) [hqI, hlrI, hwbI]
                    rw [hmp, show L.length = L'.length by omega]
                    refine ih (e - (m + 1)) (by omega) (m + 1) e lc L' N' _ rfl k' (by omega) (by omega) (by omega) (by omega) hlc2 (fun h1 y h2 h3 => q5 y (by omega) h3) ?_
                    intro L'' N'' r1 r2 r3
                    rw [show L'.length = L.length by omega]
                    have hs2 := SP.right r1 q4 q5
                    simp (disch := omega)
                    refine Rnd.mk' (a, m, lc, L'', true, tt) (by simp only; omega) (by (repeat (first | exact km | refine kp rfl ?_ | refine km' rfl ?_))) (by simp (disch := omega)) ⟨(sub_other sc').trans r3, hsp'.trans (r1.mono (by have := hm'.l1; omega) hm'.l3), (hm'.sp (r1.mono (by omega) (Nat.le_refl _))).goL q1 q2 r2 hs2.1 hs2.2, hlc2⟩
                  · have hwbI : ¬ (q : Int) ≤ (e : Int) - m := by omega
                    simp (disch := omega) [hqI, hlrI, hwbI]
                    rw [hmp, show L.length = L'.length by omega]
                    refine ih (e - (m + 1)) (by omega) (m + 1) e lc L' N' _ rfl k' (by omega) (by omega) (by omega) (by omega) hlc2 (fun h1 y h2 h3 => q5 y (by omega) h3) ?_
                    intro L'' N'' r1 r2 r3
                    rw [show L'.length = L.length by omega]
                    have hs2 := SP.right r1 q4 q5
                    simp (disch := omega)
                    refine Rnd.mk' (a, m, lc, L'', false, tt) (by simp only; omega) (by (repeat (first | exact km | refine kp rfl ?_ | refine km' rfl ?_))) (by simp (disch := omega)) ⟨(sub_other sc').trans r3, hsp'.trans (r1.mono (by have := hm'.l1; omega) hm'.l3), (hm'.sp (r1.mono (by omega) (Nat.le_refl _))).goL q1 q2 r2 hs2.1 hs2.2, hlc2⟩
            · simp (disch := omega)
              exact ret_of (h Lc Nc hspc (hmc.fin (q2 rfl)) sc)
end Go.Proofs.YthpcojnpiggaiaaGreat

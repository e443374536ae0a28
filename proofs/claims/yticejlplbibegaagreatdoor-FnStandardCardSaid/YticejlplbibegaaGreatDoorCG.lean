/- Merged: C93 C99. -/
import Derived.Test.YticejlplbibegaaGreatDoorCK
import Derived.Test.YticejlplbibegaaGreatDoorC66
import Derived.Test.YticejlplbibegaaGreatDoorCE
import Derived.Test.YticejlplbibegaaGreatDoorCF
/-! Draws: two numbers of a slope; words of slopes. -/
namespace Go.Proofs.YticejlplbibegaaGreatDoor
open Go
set_option linter.unusedSimpArgs false
set_option linter.unusedVariables false

theorem pick3 {z : Int} (h : z ∈ [(8 : Int), 20, 30]) : ∃ m : Nat, z = m ∧ m ≤ 30 := by
  simp only [List.mem_cons, List.not_mem_nil, or_false] at h
  exact ⟨z.toNat, by omega, by omega⟩
theorem drawPair_does (v : Value) (xs : List UInt8) (M : Mem) (R : Value → Mem → Prop) (hv : Rd M v (bytesV xs)) (hl : xs.length ≤ 4096) (h : ∀ p q M', Sub M M' → NearOk p → NearOk q → R (.tuple #[.int .i64 p, .int .i64 q]) M') : Does Tryz.prog 86 [v] M R := by
  refine does_fn tab_ok Tryz.func86 rfl (by kernel_rfl) (by kernel_rfl) Tryz.ntmps86 Tryz.results86 rfl ?_
  simp (disch := omega)
  refine from_does v xs _ _ hv hl ?_
  intro s M0 hs0 s0 hsrc
  have fin : ∀ M', DrR s M0 M' → Sub M M' := fun M' d => d.keep M hs0 s0
  simp (disch := omega)
  intro b1 hb1
  simp (disch := omega)
  refine pickN_does s b1 3 [8, 20, 30] _ _ _ hsrc hb1 rfl rfl (by simp) (by simp) ?_
  intro z1 hz1 M1 dd
  obtain ⟨m1, rfl, hm1⟩ := pick3 hz1
  simp (disch := omega)
  refine near2_does s m1 _ _ dd.src (by omega) ?_
  intro p0 M2 hp0 e2
  have dd := dd.trans e2
  simp (disch := omega)
  intro b2 hb2
  simp (disch := omega)
  refine pickN_does s b2 3 [8, 20, 30] _ _ _ dd.src hb2 rfl rfl (by simp) (by simp) ?_
  intro z2 hz2 M3 e3
  obtain ⟨m2, rfl, hm2⟩ := pick3 hz2
  have dd := dd.trans e3
  simp (disch := omega)
  refine near2_does s m2 _ _ dd.src (by omega) ?_
  intro q M4 hq e4
  have dd := dd.trans e4
  clear e2 e3 e4
  have hend : ∀ (p : Int) (N : Mem), NearOk p → DrR s M0 N → R (.tuple #[.int .i64 p, .int .i64 q]) N := fun p N hp d => h p q N (fin _ d) hp hq
  simp (disch := omega)
  refine loop_to tab_ok [5, 7, 20, 21, 22, 23, 24, 25, 26, 27, 28, 29, 30, 31, 32, 33, 34, 35, 36, 37, 38, 39] (fun x : Nat × Int => [(7, .int .i64 (x.1 : Nat)), (5, .int .i64 x.2)]) (fun x N => DrR s M0 N ∧ NearOk x.2 ∧ x.1 ≤ 4) (fun x => 4 - x.1) (0, p0) (by kernel_rfl) (by simp (disch := omega)) ⟨dd, hp0, by simp only; omega⟩ ?_
  rintro ⟨k, p⟩ N g ⟨dN, hp, hk⟩
  simp only at dN hp hk
  by_cases hk4 : k < 4
  · have hk4' : (k : Int) < 4 := by omega
    simp (disch := omega) [hk4, hk4']
    refine l01In_does _ _ _ _ _ ?_
    by_cases h1 : 0 ≤ p ∧ p ≤ 60
    · rw [decide_eq_true h1]
      simp (disch := omega)
      refine l01In_does _ _ _ _ _ ?_
      by_cases h2 : 0 ≤ q ∧ q ≤ 60
      · rw [decide_eq_true h2]
        obtain ⟨a, rfl⟩ : ∃ a : Nat, p = a := ⟨p.toNat, by omega⟩
        obtain ⟨b, rfl⟩ : ∃ b : Nat, q = b := ⟨q.toNat, by omega⟩
        simp (disch := omega)
        refine l02Gcd_does a b _ _ (by omega) (by omega) ?_
        generalize Nat.gcd a b = G
        by_cases hG : G = 1
        · subst hG
          simp (disch := omega)
          refine nx_does s 16 _ _ dN.src ?_
          intro x N1 _ _ e1
          have dN1 := dN.trans e1
          by_cases hx : x = 0
          · simp (disch := omega) [hx]
            refine nx_does s 1002 _ _ dN1.src ?_
            intro y N2 _ hy e2
            have hy := hy (by omega)
            simp (disch := omega)
            exact ret_of (hend y N2 ⟨by omega, by omega⟩ (dN1.trans e2))
          · simp (disch := omega) [hx]
            exact ret_of (hend a N1 hp dN1)
        · have hGI : ¬ (G : Int) = 1 := by omega
          have hGb : ((G : Int) != 1) = true := by rw [bne_iff_ne]; exact hGI
          simp (disch := omega) [hGI, hGb]
          refine nx_does s 20 _ _ dN.src ?_
          intro y N1 _ hy e1
          have hy := hy (by omega)
          simp (disch := omega)
          refine Rnd.mk' (k + 1, y) (by simp only; omega) (by (repeat (first | exact km | refine kp rfl ?_ | refine km' rfl ?_))) (by simp (disch := omega)) ⟨dN.trans e1, ⟨by simp only; omega, by simp only; omega⟩, by simp only; omega⟩
      · rw [decide_eq_false h2]
        simp (disch := omega) [undef]
        refine nx_does s 16 _ _ dN.src ?_
        intro x N1 _ _ e1
        have dN1 := dN.trans e1
        by_cases hx : x = 0
        · simp (disch := omega) [hx]
          refine nx_does s 1002 _ _ dN1.src ?_
          intro y N2 _ hy e2
          have hy := hy (by omega)
          simp (disch := omega)
          exact ret_of (hend y N2 ⟨by omega, by omega⟩ (dN1.trans e2))
        · simp (disch := omega) [hx]
          exact ret_of (hend p N1 hp dN1)
    · rw [decide_eq_false h1]
      simp (disch := omega) [undef]
      refine nx_does s 16 _ _ dN.src ?_
      intro x N1 _ _ e1
      have dN1 := dN.trans e1
      by_cases hx : x = 0
      · simp (disch := omega) [hx]
        refine nx_does s 1002 _ _ dN1.src ?_
        intro y N2 _ hy e2
        have hy := hy (by omega)
        simp (disch := omega)
        exact ret_of (hend y N2 ⟨by omega, by omega⟩ (dN1.trans e2))
      · simp (disch := omega) [hx]
        exact ret_of (hend p N1 hp dN1)
  · have hk4' : ¬ (k : Int) < 4 := by omega
    simp (disch := omega) [hk4, hk4', undef]
    refine nx_does s 16 _ _ dN.src ?_
    intro x N1 _ _ e1
    have dN1 := dN.trans e1
    by_cases hx : x = 0
    · simp (disch := omega) [hx]
      refine nx_does s 1002 _ _ dN1.src ?_
      intro y N2 _ hy e2
      have hy := hy (by omega)
      simp (disch := omega)
      exact ret_of (hend y N2 ⟨by omega, by omega⟩ (dN1.trans e2))
    · simp (disch := omega) [hx]
      exact ret_of (hend p N1 hp dN1)
theorem drawWOS_does (v : Value) (xs : List UInt8) (M : Mem) (R : Value → Mem → Prop) (hv : Rd M v (bytesV xs)) (hl : xs.length ≤ 4096) (h : ∀ p q M', Sub M M' → NearOk p → NearOk q → R (.tuple #[.int .i64 p, .int .i64 q]) M') : Does Tryz.prog 26 [v] M R := by
  refine does_fn tab_ok Tryz.func26 rfl (by kernel_rfl) (by kernel_rfl) Tryz.ntmps26 Tryz.results26 rfl ?_
  simp (disch := omega)
  refine drawPair_does v xs _ _ hv hl ?_
  intro p q M1 s1 hp hq
  simp (disch := omega)
  exact ret_of (h p q M1 s1 hp hq)
theorem draw8_does (s : Rng) (M : Mem) (R : Value → Mem → Prop) (hs : SrcR M s) (h : ∀ w M', (w : List UInt8).length ≤ 200 → DrR s M M' → R (str w) M') : Does Tryz.prog 91 [.pointer (some ⟨s.b, 0, none⟩)] M R := by
  refine does_fn tab_ok Tryz.func91 rfl (by kernel_rfl) (by kernel_rfl) Tryz.ntmps91 Tryz.results91 rfl ?_
  simp (disch := omega)
  refine nx_does s 14 _ _ hs ?_
  intro p M1 _ hp d1
  have hp := hp (by omega)
  simp (disch := omega)
  refine nx_does s 14 _ _ d1.src ?_
  intro q M2 _ hq d2
  have hq := hq (by omega)
  obtain ⟨a, ha⟩ : ∃ a : Nat, 1 + p = a := ⟨(1 + p).toNat, by omega⟩
  obtain ⟨b, hb⟩ : ∃ b : Nat, 1 + q = b := ⟨(1 + q).toNat, by omega⟩
  have hab : 1 ≤ a ∧ a ≤ 14 ∧ 1 ≤ b ∧ b ≤ 14 := by omega
  simp (disch := omega) [ha, hb]
  refine nx_does s 6 _ _ d2.src ?_
  intro x M3 _ hx d3
  have hx := hx (by omega)
  have dd := (d1.trans d2).trans d3
  clear d1 d2 d3
  by_cases h01 : x = 0 ∨ x = 1
  · have hcase : (x = 0) ∨ (x ≠ 0 ∧ x = 1) := by omega
    have hgl := Nat.gcd_comm a b
    rcases hcase with h0 | ⟨h0, h1⟩
    · simp (disch := omega) [h0]
      refine l02Gcd_does a b _ _ (by omega) (by omega) ?_
      by_cases hG : Nat.gcd a b = 1
      · rw [hG]
        simp (disch := omega)
        refine l08Word_does a b _ _ (by omega) (by omega) ?_
        have hsl : (slopeL a b).length = a + b := stepL_len _ _ _ _
        simp (disch := omega)
        exact ret_of (h _ _ (by omega) dd)
      · have hGI : ¬ ((Nat.gcd a b : Nat) : Int) = 1 := by omega
        clear hgl
        generalize Nat.gcd a b = G at *
        simp (disch := omega) [hGI]
        refine nx_does s 12 _ _ dd.src ?_
        intro n M4 _ hn d4
        have hn := hn (by omega)
        simp (disch := omega)
        refine drawOf_does s n 2 _ _ d4.src (by omega) (by omega) ?_
        intro w M5 hw _ d5
        simp (disch := omega)
        exact ret_of (h w _ (by omega) ((dd.trans d4).trans d5))
    · simp (disch := omega) [h0, h1]
      refine l02Gcd_does a b _ _ (by omega) (by omega) ?_
      by_cases hG : Nat.gcd a b = 1
      · rw [hG]
        simp (disch := omega)
        refine l08Word_does a b _ _ (by omega) (by omega) ?_
        have hsl : (slopeL a b).length = a + b := stepL_len _ _ _ _
        simp (disch := omega)
        exact ret_of (h _ _ (by omega) dd)
      · have hGI : ¬ ((Nat.gcd a b : Nat) : Int) = 1 := by omega
        clear hgl
        generalize Nat.gcd a b = G at *
        simp (disch := omega) [hGI]
        refine nx_does s 12 _ _ dd.src ?_
        intro n M4 _ hn d4
        have hn := hn (by omega)
        simp (disch := omega)
        refine drawOf_does s n 2 _ _ d4.src (by omega) (by omega) ?_
        intro w M5 hw _ d5
        simp (disch := omega)
        exact ret_of (h w _ (by omega) ((dd.trans d4).trans d5))
  · have h0 : ¬ x = 0 := by omega
    have h1 : ¬ x = 1 := by omega
    by_cases h2 : x = 2
    · subst h2
      simp (disch := omega)
      refine nx_does s _ _ _ dd.src ?_
      intro c M4 _ _ d4
      simp (disch := omega)
      refine nx_does s 40 _ _ d4.src ?_
      intro n M5 _ hn d5
      simp (disch := omega)
      refine spec_SteppedWord _ _ c n _ _ (by split <;> omega) ?_
      have hln := stpW_len
      simp (disch := omega) [tup2]
      exact ret_of (h _ _ (by have := hln; exact Nat.le_trans (hln _ _ _ _) (by decide)) ((dd.trans d4).trans d5))
    · by_cases h3 : x = 3
      · subst h3
        simp (disch := omega)
        refine nx_does s 4 _ _ dd.src ?_
        intro y1 M4 _ hy1 d4
        have hy1 := hy1 (by omega)
        simp (disch := omega)
        refine nx_does s 3 _ _ d4.src ?_
        intro y2 M5 _ hy2 d5
        have hy2 := hy2 (by omega)
        simp (disch := omega)
        refine nx_does s 2 _ _ d5.src ?_
        intro y3 M6 _ hy3 d6
        have hy3 := hy3 (by omega)
        simp (disch := omega)
        refine nx_does s 2 _ _ d6.src ?_
        intro y4 M7 _ hy4 d7
        have hy4 := hy4 (by omega)
        have d7 := (((dd.trans d4).trans d5).trans d6).trans d7
        simp (disch := omega)
        intro bz hbz
        simp (disch := omega)
        have s8 := (Sub.refl M7).put hbz (.cells true (ints [y1, 1 + y2, 1 + y3, 1 + y4]) 4)
        refine spec_StandardWord _ [y1, 1 + y2, 1 + y3, 1 + y4] _ _ (Rd.new rfl (Nat.le_refl 4)) (by simp) ?_
        have hln := stdW_len [y1, 1 + y2, 1 + y3, 1 + y4]
        generalize stdW [y1, 1 + y2, 1 + y3, 1 + y4] = W at *
        generalize stdC [y1, 1 + y2, 1 + y3, 1 + y4] = C at *
        simp (disch := omega) [tup2]
        exact ret_of (h W _ (by omega) (d7.trans (DrR.sub d7.src s8)))
      · by_cases h4 : x = 4
        · subst h4
          simp (disch := omega)
          refine spoil_does s _ _ dd.src ?_
          intro w M4 hw d4
          simp (disch := omega)
          exact ret_of (h w _ hw (dd.trans d4))
        · simp (disch := omega) [h0, h1, h2, h3, h4]
          refine nx_does s 12 _ _ dd.src ?_
          intro n M4 _ hn d4
          have hn := hn (by omega)
          simp (disch := omega)
          refine drawOf_does s n 2 _ _ d4.src (by omega) (by omega) ?_
          intro w M5 hw _ d5
          simp (disch := omega)
          exact ret_of (h w _ (by omega) ((dd.trans d4).trans d5))
theorem drawSOW_does (v : Value) (xs : List UInt8) (M : Mem) (R : Value → Mem → Prop) (hv : Rd M v (bytesV xs)) (hl : xs.length ≤ 4096) (h : ∀ w M', Sub M M' → (w : List UInt8).length ≤ 200 → R (str w) M') : Does Tryz.prog 29 [v] M R := by
  refine does_fn tab_ok Tryz.func29 rfl (by kernel_rfl) (by kernel_rfl) Tryz.ntmps29 Tryz.results29 rfl ?_
  simp (disch := omega)
  refine from_does v xs _ _ hv hl ?_
  intro s M0 hs0 s0 hsrc
  simp (disch := omega)
  refine draw8_does s _ _ hsrc ?_
  intro w M1 hw d1
  simp (disch := omega)
  exact ret_of (h w _ (d1.keep M hs0 s0) hw)
theorem drawCut_does (v : Value) (xs : List UInt8) (M : Mem) (R : Value → Mem → Prop) (hv : Rd M v (bytesV xs)) (hl : xs.length ≤ 4096) (h : ∀ w M', Sub M M' → (w : List UInt8).length ≤ 200 → R (str w) M') : Does Tryz.prog 32 [v] M R := by
  refine does_fn tab_ok Tryz.func32 rfl (by kernel_rfl) (by kernel_rfl) Tryz.ntmps32 Tryz.results32 rfl ?_
  simp (disch := omega)
  refine from_does v xs _ _ hv hl ?_
  intro s M0 hs0 s0 hsrc
  simp (disch := omega)
  refine draw8_does s _ _ hsrc ?_
  intro w M1 hw d1
  simp (disch := omega)
  exact ret_of (h w _ (d1.keep M hs0 s0) hw)
theorem drawLOS_does (v : Value) (xs : List UInt8) (M : Mem) (R : Value → Mem → Prop) (hv : Rd M v (bytesV xs)) (hl : xs.length ≤ 4096) (h : ∀ w M', Sub M M' → (w : List UInt8).length ≤ 200 → R (str w) M') : Does Tryz.prog 45 [v] M R := by
  refine does_fn tab_ok Tryz.func45 rfl (by kernel_rfl) (by kernel_rfl) Tryz.ntmps45 Tryz.results45 rfl ?_
  simp (disch := omega)
  refine from_does v xs _ _ hv hl ?_
  intro s M0 hs0 s0 hsrc
  simp (disch := omega)
  refine draw8_does s _ _ hsrc ?_
  intro w M1 hw d1
  simp (disch := omega)
  exact ret_of (h w _ (d1.keep M hs0 s0) hw)
end Go.Proofs.YticejlplbibegaaGreatDoor
/-! Draws: standard words' lists, stepped words, numbers for balanced words. -/
namespace Go.Proofs.YticejlplbibegaaGreatDoor
open Go
set_option linter.unusedSimpArgs false
set_option linter.unusedVariables false

theorem drawST_does (v : Value) (xs : List UInt8) (M : Mem) (R : Value → Mem → Prop) (hv : Rd M v (bytesV xs)) (hl : xs.length ≤ 4096) (h : ∀ a b c n M', Sub M M' → 1 ≤ b → b ≤ 1000 → R (.tuple #[.int .i64 a, .int .i64 b, .int .i64 c, .int .i64 n]) M') : Does Tryz.prog 49 [v] M R := by
  refine does_fn tab_ok Tryz.func49 rfl (by kernel_rfl) (by kernel_rfl) Tryz.ntmps49 Tryz.results49 rfl ?_
  simp (disch := omega)
  refine from_does v xs _ _ hv hl ?_
  intro s M0 hs0 s0 hsrc
  simp (disch := omega)
  intro b1 hb1
  simp (disch := omega)
  refine pickN_does s b1 3 [6, 20, 1000] _ _ _ hsrc hb1 rfl rfl (by simp) (by simp) ?_
  intro z hz M1 dd
  have hz : 6 ≤ z ∧ z ≤ 1000 := by
    simp only [List.mem_cons, List.not_mem_nil, or_false] at hz
    omega
  simp (disch := omega)
  refine nx_does s z _ _ dd.src ?_
  intro y M2 _ hy e2
  have hy := hy (by omega)
  have dd := dd.trans e2
  obtain ⟨b, hb⟩ : ∃ b, 1 + y = b := ⟨_, rfl⟩
  have hbb : 1 ≤ b ∧ b ≤ 1000 := by omega
  simp (disch := omega) [hb]
  refine nx_does s (b + 1) _ _ dd.src ?_
  intro x1 M3 _ hx1 e3
  have hx1 := hx1 (by omega)
  have dd := dd.trans e3
  simp (disch := omega)
  refine nx_does s 24 _ _ dd.src ?_
  intro x2 M4 _ hx2 e4
  have hx2 := hx2 (by omega)
  have dd := dd.trans e4
  obtain ⟨q, hq, hq2⟩ : ∃ q : Int, x2.tdiv 23 = q ∧ (q = 0 ∨ q = 1) := by
    by_cases h23 : x2 < 23
    · exact ⟨0, Int.tdiv_eq_zero_of_lt (by omega) (by omega), .inl rfl⟩
    · have : x2 = 23 := by omega
      subst this
      exact ⟨1, rfl, .inr rfl⟩
  obtain ⟨m, hm, hm2⟩ : ∃ m : Int, q * b = m ∧ (0 ≤ m ∧ m ≤ 1000) := by
    rcases hq2 with rfl | rfl
    · exact ⟨0, by omega, by omega⟩
    · exact ⟨b, by omega, by omega⟩
  have hq3 : 0 ≤ q ∧ q ≤ 1 := by omega
  simp (disch := omega) [hq, hm]
  refine nx_does s b _ _ dd.src ?_
  intro x3 M5 _ hx3 e5
  have dd := dd.trans e5
  simp (disch := omega)
  refine near2_does s 60 _ _ dd.src (by omega) ?_
  intro n M6 hn e6
  have dd := dd.trans e6
  simp (disch := omega)
  exact ret_of (h _ b x3 n _ (dd.keep M hs0 s0) (by omega) (by omega))
theorem drawBW_does (v : Value) (xs : List UInt8) (M : Mem) (R : Value → Mem → Prop) (hv : Rd M v (bytesV xs)) (hl : xs.length ≤ 4096) (h : ∀ n M', Sub M M' → R (.int .i64 n) M') : Does Tryz.prog 52 [v] M R := by
  refine does_fn tab_ok Tryz.func52 rfl (by kernel_rfl) (by kernel_rfl) Tryz.ntmps52 Tryz.results52 rfl ?_
  simp (disch := omega)
  refine from_does v xs _ _ hv hl ?_
  intro s M0 hs0 s0 hsrc
  simp (disch := omega)
  refine near2_does s 10 _ _ hsrc (by omega) ?_
  intro n M6 hn e6
  simp (disch := omega)
  exact ret_of (h n _ (e6.keep M hs0 s0))
theorem drawCB_does (v : Value) (xs : List UInt8) (M : Mem) (R : Value → Mem → Prop) (hv : Rd M v (bytesV xs)) (hl : xs.length ≤ 4096) (h : ∀ n M', Sub M M' → R (.int .i64 n) M') : Does Tryz.prog 55 [v] M R := by
  refine does_fn tab_ok Tryz.func55 rfl (by kernel_rfl) (by kernel_rfl) Tryz.ntmps55 Tryz.results55 rfl ?_
  simp (disch := omega)
  refine from_does v xs _ _ hv hl ?_
  intro s M0 hs0 s0 hsrc
  simp (disch := omega)
  intro b1 hb1
  simp (disch := omega)
  refine pickN_does s b1 3 [10, 100, 1000] _ _ _ hsrc hb1 rfl rfl (by simp) (by simp) ?_
  intro z hz M1 dd
  obtain ⟨m, rfl, hm⟩ : ∃ m : Nat, z = m ∧ m ≤ 1000 := by
    simp only [List.mem_cons, List.not_mem_nil, or_false] at hz
    exact ⟨z.toNat, by omega, by omega⟩
  simp (disch := omega)
  refine near2_does s m _ _ dd.src (by omega) ?_
  intro n M6 hn e6
  simp (disch := omega)
  exact ret_of (h n _ ((dd.trans e6).keep M hs0 s0))
set_option maxHeartbeats 1000000 in
theorem drawSTD_does (v : Value) (xs : List UInt8) (M : Mem) (R : Value → Mem → Prop) (hv : Rd M v (bytesV xs)) (hl : xs.length ≤ 4096) (h : ∀ v' zs M', Sub M M' → Rd M' v' (ints zs) → zs.length ≤ 1000 → R v' M') : Does Tryz.prog 42 [v] M R := by
  refine does_fn tab_ok Tryz.func42 rfl (by kernel_rfl) (by kernel_rfl) Tryz.ntmps42 Tryz.results42 rfl ?_
  simp (disch := omega)
  refine from_does v xs _ _ hv hl ?_
  intro s M1 hs0 s0 hsrc
  simp (disch := omega)
  intro b0 hb0
  simp (disch := omega)
  intro b1 hb1
  simp (disch := omega)
  have o0 := Own.new (M := M1) (xs := ints []) (n := 0) (c := 0) hb0 rfl (Nat.le_refl 0)
  have d0 : DrR s M1 (M1.put b0 (.cells true [] 0)) := DrR.sub hsrc ((Sub.refl M1).put hb0 _)
  refine pickN_does s b1 3 [4, 6, 9] _ _ _ d0.src hb1 rfl rfl (by simp) (by simp) ?_
  intro z hz M2 e2
  have hz : 4 ≤ z ∧ z ≤ 9 := by
    simp only [List.mem_cons, List.not_mem_nil, or_false] at hz
    omega
  simp (disch := omega)
  refine nx_does s z _ _ e2.src ?_
  intro k0 M3 _ hk0 e3
  have hk0 := hk0 (by omega)
  obtain ⟨Mb0, Mo0, o0', s0', f0⟩ := own_draw o0 hsrc (Sub.refl _) (e2.trans e3)
  clear o0 d0 e2 e3
  simp (disch := omega)
  refine loop_to tab_ok [4, 5, 14, 15, 16, 17, 18, 19, 20, 21, 22, 23, 24, 25, 26] (fun x : List Int × Value × Nat => [(5, .int .i64 (x.2.2 : Nat)), (4, x.2.1)]) (fun x N => x.1.length + x.2.2 ≤ 9 ∧ ∃ Mb Mo, DrR s M1 Mb ∧ Own Mb x.2.1 (ints x.1) Mo ∧ Sub Mo N) (fun x => x.2.2) ([], .slice (some ⟨b0, 0, none⟩) 0 0, k0.toNat) (by kernel_rfl) (by simp (disch := omega); try omega) ⟨by simp only [List.length_nil]; omega, Mb0, Mo0, f0, o0', s0'⟩ ?_
  rintro ⟨zs, vz, k⟩ N g ⟨hzl, Mb, Mo, dB, o, so⟩
  simp only at hzl o
  by_cases hk : 0 < k
  · have hkI : (0 : Int) < k := by omega
    have dN := DrR.sub dB.src (o.sub.trans so)
    simp (disch := omega) [hk, hkI]
    intro b5 hb5
    simp (disch := omega)
    refine pickN_does s b5 4 [1, 2, 3, 6] _ _ _ dN.src hb5 rfl rfl (by simp) (by simp) ?_
    intro z2 hz2 N2 e2
    have hz2 : 1 ≤ z2 ∧ z2 ≤ 6 := by
      simp only [List.mem_cons, List.not_mem_nil, or_false] at hz2
      omega
    simp (disch := omega)
    refine nx_does s z2 _ _ e2.src ?_
    intro y N3 _ hy e3
    have hy := hy (by omega)
    obtain ⟨Mb2, M2', o2, s2, f2⟩ := own_draw o dB.src so (e2.trans e3)
    simp (disch := omega)
    intro b' hb'
    simp (disch := omega)
    refine app_own o2 (s2.trans ((Sub.refl _).put hb' _)) (by simp (disch := omega); rfl) rfl rfl (by omega) (by simp (disch := omega)) (by simp (disch := omega); omega) ?_
    intro v' M'' N'' o' s'
    rw [ints_snoc] at o'
    obtain ⟨k, rfl⟩ : ∃ k', k = k' + 1 := ⟨k - 1, by omega⟩
    have hk1 : ((k + 1 : Nat) : Int) - 1 = k := by omega
    have hk2 : ((k : Int) + 1) - 1 = k := by omega
    simp (disch := omega) [hk1, hk2]
    refine Rnd.mk' (zs ++ [1 + y], v', k) (by simp only; omega) (by (repeat (first | exact km | refine kp rfl ?_ | refine km' rfl ?_))) (by simp (disch := omega)) ⟨by simp only [List.length_append, List.length_singleton]; omega, Mb2, dB.trans f2, M'', o', s'⟩
  · have hkI : ¬ (0 : Int) < k := by omega
    have hk0' : k = 0 := by omega
    subst hk0'
    by_cases hz0 : zs.length = 0
    · obtain ⟨az, cz, hve, _⟩ := o.rd.opened
      rw [ints_length, hz0] at hve
      subst hve
      simp (disch := omega)
      refine nx_does s 24 _ _ (dB.src.sub (o.sub.trans so)) ?_
      intro x24 N9 _ hx24 e9
      obtain ⟨Mb9, M9', o9, s9, f9⟩ := own_draw o dB.src so e9
      have dB9 := dB.trans f9
      have sM9 := ((dB9.keep M hs0 s0).trans o9.sub).trans s9
      by_cases h24 : x24 = 0
      · simp (disch := omega) [h24]
        refine loop_to tab_ok [4, 47, 48, 49, 50, 51, 52] (fun x : List Int × Value => [(4, x.2)]) (fun x N => x.1.length ≤ 100 ∧ ∃ Mb Mo, DrR s M1 Mb ∧ Own Mb x.2 (ints x.1) Mo ∧ Sub Mo N) (fun x => 21 - x.1.length) (zs, (.slice az 0 cz)) (by kernel_rfl) (by simp (disch := omega)) ⟨by simp only; omega, Mb9, M9', dB9, o9, s9⟩ ?_
        rintro ⟨ys, vy⟩ N g ⟨hyl, Mb, Mo, dy, oy, sy⟩
        simp only at hyl oy
        obtain ⟨ay, cy, hve, _⟩ := oy.rd.opened
        rw [ints_length] at hve
        by_cases h21 : ys.length < 21
        · have h21I : (ys.length : Int) < 21 := by omega
          subst hve
          simp (disch := omega) [h21, h21I]
          intro b' hb'
          simp (disch := omega)
          refine app_own oy (sy.trans ((Sub.refl _).put hb' _)) (by simp (disch := omega); rfl) rfl rfl (by omega) (by simp (disch := omega)) (by simp (disch := omega); omega) ?_
          intro v' M'' N'' o' s'
          rw [ints_snoc] at o'
          simp (disch := omega)
          refine Rnd.mk' (ys ++ [1], v') (by simp only [List.length_append, List.length_singleton]; omega) (by (repeat (first | exact km | refine kp rfl ?_ | refine km' rfl ?_))) (by simp (disch := omega)) ⟨by simp only [List.length_append, List.length_singleton]; omega, Mb, dy, M'', o', s'⟩
        · have h21I : ¬ (ys.length : Int) < 21 := by omega
          have hfin := h vy ys N (((dy.keep M hs0 s0).trans oy.sub).trans sy) (oy.rd.sub sy) (by omega)
          subst hve
          simp (disch := omega) [h21, h21I]
          exact ret_of hfin
      · simp (disch := omega) [h24]
        exact ret_of (h (.slice az 0 cz) zs N9 sM9 (o9.rd.sub s9) (by omega))
    · have hz0I : (0 : Int) < zs.length := by omega
      have hz0n : 0 < zs.length := by omega
      have hzne : ¬ zs = [] := by intro e; rw [e] at hz0n; simp at hz0n
      obtain ⟨az, cz, hve, _⟩ := o.rd.opened
      rw [ints_length] at hve
      subst hve
      simp (disch := omega) [hz0n, hz0I, hzne]
      refine nx_does s 6 _ _ (dB.src.sub (o.sub.trans so)) ?_
      intro x6 N5 _ hx6 e5
      obtain ⟨Mb5, M5', o5, s5, f5⟩ := own_draw o dB.src so e5
      have dB := dB.trans f5
      clear o so
      rcases o5 with ⟨_, h0, _⟩ | ⟨bz, cz', hve, hbz, hcz, rfl⟩
      · have := congrArg List.length h0
        rw [ints_length] at this
        simp at this
        exact absurd this hzne
      rw [ints_length] at hve hcz
      injection hve with e1 e2 e3
      subst e1
      subst e3
      by_cases h6 : x6 = 0
      · simp (disch := omega) [h6]
        refine nx_does s _ _ _ (dB.src.sub (((Sub.refl _).put hbz _).trans s5)) ?_
        intro jI N6 _ hj e6
        have hj := hj (by omega)
        obtain ⟨Mb6, M6', o6, s6, f6⟩ := own_draw (Own.new (xs := ints zs) hbz (ints_length zs) hcz) dB.src s5 e6
        have dB := dB.trans f6
        obtain ⟨j, rfl⟩ : ∃ j : Nat, jI = j := ⟨jI.toNat, by omega⟩
        have hjl : j < zs.length := by omega
        simp (disch := omega)
        intro b8 hb8
        simp (disch := omega)
        have dN6 := DrR.sub dB.src (o6.sub.trans s6)
        refine pickN_does s b8 5 [0, 0, 60, 61, -1] _ _ _ dN6.src hb8 rfl rfl (by simp) (by simp) ?_
        intro zv hzv N7 e7
        obtain ⟨Mb7, M7', o7, s7, f7⟩ := own_draw o6 dB.src s6 e7
        have dB := dB.trans f7
        rcases o7 with ⟨_, h0, _⟩ | ⟨bz', cz', hve, hbz7, hcz7, rfl⟩
        · have := congrArg List.length h0
          rw [ints_length] at this
          simp at this
          exact absurd this hzne
        rw [ints_length] at hve hcz7
        injection hve with e1 e2 e3
        injection e1 with e1
        injection e1 with e1
        subst e1
        subst e3
        have k7 := s7 _ _ (put_same Mb7 bz (.cells true (ints zs) cz))
        have hsub7 : Sub Mb7 N7 := ((Sub.refl Mb7).put hbz7 _).trans s7
        have hset : (ints zs).set j (.int .i64 zv) = ints (zs.set j zv) := ints_set zs j zv
        have hgj : (ints zs).length = zs.length := ints_length zs
        simp (disch := omega) [k7, set_is, hset, hjl, hgj]
        have o : Own Mb7 (.slice (some ⟨bz, 0, none⟩) zs.length cz) (ints (zs.set j zv)) (Mb7.put bz (.cells true (ints (zs.set j zv)) cz)) := Own.new hbz7 (by rw [ints_length, List.length_set]) hcz7
        have so : Sub (Mb7.put bz (.cells true (ints (zs.set j zv)) cz)) (N7.put bz (.cells true (ints (zs.set j zv)) cz)) := hsub7.both _ _
        have hzl2 : (zs.set j zv).length ≤ 9 := by rw [List.length_set]; omega
        generalize N7.put bz (.cells true (ints (zs.set j zv)) cz) = NN at *
        refine nx_does s 24 _ _ (dB.src.sub (o.sub.trans so)) ?_
        intro x24 N9 _ hx24 e9
        obtain ⟨Mb9, M9', o9, s9, f9⟩ := own_draw o dB.src so e9
        have dB9 := dB.trans f9
        have sM9 := ((dB9.keep M hs0 s0).trans o9.sub).trans s9
        by_cases h24 : x24 = 0
        · simp (disch := omega) [h24]
          refine loop_to tab_ok [4, 47, 48, 49, 50, 51, 52] (fun x : List Int × Value => [(4, x.2)]) (fun x N => x.1.length ≤ 100 ∧ ∃ Mb Mo, DrR s M1 Mb ∧ Own Mb x.2 (ints x.1) Mo ∧ Sub Mo N) (fun x => 21 - x.1.length) ((zs.set j zv), (.slice (some ⟨bz, 0, none⟩) zs.length cz)) (by kernel_rfl) (by simp (disch := omega)) ⟨by simp only; omega, Mb9, M9', dB9, o9, s9⟩ ?_
          rintro ⟨ys, vy⟩ N g ⟨hyl, Mb, Mo, dy, oy, sy⟩
          simp only at hyl oy
          obtain ⟨ay, cy, hve, _⟩ := oy.rd.opened
          rw [ints_length] at hve
          by_cases h21 : ys.length < 21
          · have h21I : (ys.length : Int) < 21 := by omega
            subst hve
            simp (disch := omega) [h21, h21I]
            intro b' hb'
            simp (disch := omega)
            refine app_own oy (sy.trans ((Sub.refl _).put hb' _)) (by simp (disch := omega); rfl) rfl rfl (by omega) (by simp (disch := omega)) (by simp (disch := omega); omega) ?_
            intro v' M'' N'' o' s'
            rw [ints_snoc] at o'
            simp (disch := omega)
            refine Rnd.mk' (ys ++ [1], v') (by simp only [List.length_append, List.length_singleton]; omega) (by (repeat (first | exact km | refine kp rfl ?_ | refine km' rfl ?_))) (by simp (disch := omega)) ⟨by simp only [List.length_append, List.length_singleton]; omega, Mb, dy, M'', o', s'⟩
          · have h21I : ¬ (ys.length : Int) < 21 := by omega
            have hfin := h vy ys N (((dy.keep M hs0 s0).trans oy.sub).trans sy) (oy.rd.sub sy) (by omega)
            subst hve
            simp (disch := omega) [h21, h21I]
            exact ret_of hfin
        · simp (disch := omega) [h24]
          exact ret_of (h (.slice (some ⟨bz, 0, none⟩) zs.length cz) (zs.set j zv) N9 sM9 (o9.rd.sub s9) (by omega))
      · have o := Own.new (xs := ints zs) hbz (ints_length zs) hcz
        have so := s5
        simp (disch := omega) [h6]
        refine nx_does s 24 _ _ (dB.src.sub (o.sub.trans so)) ?_
        intro x24 N9 _ hx24 e9
        obtain ⟨Mb9, M9', o9, s9, f9⟩ := own_draw o dB.src so e9
        have dB9 := dB.trans f9
        have sM9 := ((dB9.keep M hs0 s0).trans o9.sub).trans s9
        by_cases h24 : x24 = 0
        · simp (disch := omega) [h24]
          refine loop_to tab_ok [4, 47, 48, 49, 50, 51, 52] (fun x : List Int × Value => [(4, x.2)]) (fun x N => x.1.length ≤ 100 ∧ ∃ Mb Mo, DrR s M1 Mb ∧ Own Mb x.2 (ints x.1) Mo ∧ Sub Mo N) (fun x => 21 - x.1.length) (zs, (.slice (some ⟨bz, 0, none⟩) zs.length cz)) (by kernel_rfl) (by simp (disch := omega)) ⟨by simp only; omega, Mb9, M9', dB9, o9, s9⟩ ?_
          rintro ⟨ys, vy⟩ N g ⟨hyl, Mb, Mo, dy, oy, sy⟩
          simp only at hyl oy
          obtain ⟨ay, cy, hve, _⟩ := oy.rd.opened
          rw [ints_length] at hve
          by_cases h21 : ys.length < 21
          · have h21I : (ys.length : Int) < 21 := by omega
            subst hve
            simp (disch := omega) [h21, h21I]
            intro b' hb'
            simp (disch := omega)
            refine app_own oy (sy.trans ((Sub.refl _).put hb' _)) (by simp (disch := omega); rfl) rfl rfl (by omega) (by simp (disch := omega)) (by simp (disch := omega); omega) ?_
            intro v' M'' N'' o' s'
            rw [ints_snoc] at o'
            simp (disch := omega)
            refine Rnd.mk' (ys ++ [1], v') (by simp only [List.length_append, List.length_singleton]; omega) (by (repeat (first | exact km | refine kp rfl ?_ | refine km' rfl ?_))) (by simp (disch := omega)) ⟨by simp only [List.length_append, List.length_singleton]; omega, Mb, dy, M'', o', s'⟩
          · have h21I : ¬ (ys.length : Int) < 21 := by omega
            have hfin := h vy ys N (((dy.keep M hs0 s0).trans oy.sub).trans sy) (oy.rd.sub sy) (by omega)
            subst hve
            simp (disch := omega) [h21, h21I]
            exact ret_of hfin
        · simp (disch := omega) [h24]
          exact ret_of (h (.slice (some ⟨bz, 0, none⟩) zs.length cz) zs N9 sM9 (o9.rd.sub s9) (by omega))
end Go.Proofs.YticejlplbibegaaGreatDoor

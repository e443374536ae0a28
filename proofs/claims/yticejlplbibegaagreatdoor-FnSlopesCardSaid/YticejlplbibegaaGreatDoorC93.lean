/- Draws: two numbers of a slope; words of slopes. -/
import Derived.Test.YticejlplbibegaaGreatDoorC74
import Derived.Test.YticejlplbibegaaGreatDoorC66
import Derived.Test.YticejlplbibegaaGreatDoorC92
namespace Go.Proofs.YticejlplbibegaaGreatDoor
open Go
set_option linter.unusedSimpArgs false
set_option linter.unusedVariables false

theorem pick3 {z : Int} (h : z ∈ [(8 : Int), 20, 30]) : ∃ m : Nat, z = m ∧ m ≤ 30 := by
  simp only [List.mem_cons, List.not_mem_nil, or_false] at h
  exact ⟨z.toNat, by omega, by omega⟩
theorem drawPair_does (v : Value) (xs : List UInt8) (M : Mem) (R : Value → Mem → Prop) (hv : Rd M v (bytesV xs)) (hl : xs.length ≤ 4096) (h : ∀ p q M', Sub M M' → NearOk p → NearOk q → R (.tuple #[.int .i64 p, .int .i64 q]) M') : Does Tryz.prog 86 [v] M R := by
  refine does_fn tab_ok Tryz.func86 rfl (by kernel_rfl) (by kernel_rfl) Tryz.ntmps86 Tryz.results86 rfl ?_
  simp (disch := omega)
  refine from_does v xs _ _ hv hl ?_
  intro s M0 hs0 s0 hsrc
  have fin : ∀ M', DrR s M0 M' → Sub M M' := fun M' d => d.keep M hs0 s0
  simp (disch := omega)
  intro b1 hb1
  simp (disch := omega)
  refine pickN_does s b1 3 [8, 20, 30] _ _ _ hsrc hb1 rfl rfl (by simp) (by simp) ?_
  intro z1 hz1 M1 dd
  obtain ⟨m1, rfl, hm1⟩ := pick3 hz1
  simp (disch := omega)
  refine near2_does s m1 _ _ dd.src (by omega) ?_
  intro p0 M2 hp0 e2
  have dd := dd.trans e2
  simp (disch := omega)
  intro b2 hb2
  simp (disch := omega)
  refine pickN_does s b2 3 [8, 20, 30] _ _ _ dd.src hb2 rfl rfl (by simp) (by simp) ?_
  intro z2 hz2 M3 e3
  obtain ⟨m2, rfl, hm2⟩ := pick3 hz2
  have dd := dd.trans e3
  simp (disch := omega)
  refine near2_does s m2 _ _ dd.src (by omega) ?_
  intro q M4 hq e4
  have dd := dd.trans e4
  clear e2 e3 e4
  have hend : ∀ (p : Int) (N : Mem), NearOk p → DrR s M0 N → R (.tuple #[.int .i64 p, .int .i64 q]) N := fun p N hp d => h p q N (fin _ d) hp hq
  simp (disch := omega)
  refine loop_to tab_ok [5, 7, 20, 21, 22, 23, 24, 25, 26, 27, 28, 29, 30, 31, 32, 33, 34, 35, 36, 37, 38, 39] (fun x : Nat × Int => [(7, .int .i64 (x.1 : Nat)), (5, .int .i64 x.2)]) (fun x N => DrR s M0 N ∧ NearOk x.2 ∧ x.1 ≤ 4) (fun x => 4 - x.1) (0, p0) (by kernel_rfl) (by simp (disch := omega)) ⟨dd, hp0, by simp only; omega⟩ ?_
  rintro ⟨k, p⟩ N g ⟨dN, hp, hk⟩
  simp only at dN hp hk
  by_cases hk4 : k < 4
  · have hk4' : (k : Int) < 4 := by omega
    simp (disch := omega) [hk4, hk4']
    refine l01In_does _ _ _ _ _ ?_
    by_cases h1 : 0 ≤ p ∧ p ≤ 60
    · rw [decide_eq_true h1]
      simp (disch := omega)
      refine l01In_does _ _ _ _ _ ?_
      by_cases h2 : 0 ≤ q ∧ q ≤ 60
      · rw [decide_eq_true h2]
        obtain ⟨a, rfl⟩ : ∃ a : Nat, p = a := ⟨p.toNat, by omega⟩
        obtain ⟨b, rfl⟩ : ∃ b : Nat, q = b := ⟨q.toNat, by omega⟩
        simp (disch := omega)
        refine l02Gcd_does a b _ _ (by omega) (by omega) ?_
        generalize Nat.gcd a b = G
        by_cases hG : G = 1
        · subst hG
          simp (disch := omega)
          refine nx_does s 16 _ _ dN.src ?_
          intro x N1 _ _ e1
          have dN1 := dN.trans e1
          by_cases hx : x = 0
          · simp (disch := omega) [hx]
            refine nx_does s 1002 _ _ dN1.src ?_
            intro y N2 _ hy e2
            have hy := hy (by omega)
            simp (disch := omega)
            exact ret_of (hend y N2 ⟨by omega, by omega⟩ (dN1.trans e2))
          · simp (disch := omega) [hx]
            exact ret_of (hend a N1 hp dN1)
        · have hGI : ¬ (G : Int) = 1 := by omega
          have hGb : ((G : Int) != 1) = true := by rw [bne_iff_ne]; exact hGI
          simp (disch := omega) [hGI, hGb]
          refine nx_does s 20 _ _ dN.src ?_
          intro y N1 _ hy e1
          have hy := hy (by omega)
          simp (disch := omega)
          refine Rnd.mk' (k + 1, y) (by simp only; omega) (by (repeat (first | exact km | refine kp rfl ?_ | refine km' rfl ?_))) (by simp (disch := omega)) ⟨dN.trans e1, ⟨by simp only; omega, by simp only; omega⟩, by simp only; omega⟩
      · rw [decide_eq_false h2]
        simp (disch := omega) [undef]
        refine nx_does s 16 _ _ dN.src ?_
        intro x N1 _ _ e1
        have dN1 := dN.trans e1
        by_cases hx : x = 0
        · simp (disch := omega) [hx]
          refine nx_does s 1002 _ _ dN1.src ?_
          intro y N2 _ hy e2
          have hy := hy (by omega)
          simp (disch := omega)
          exact ret_of (hend y N2 ⟨by omega, by omega⟩ (dN1.trans e2))
        · simp (disch := omega) [hx]
          exact ret_of (hend p N1 hp dN1)
    · rw [decide_eq_false h1]
      simp (disch := omega) [undef]
      refine nx_does s 16 _ _ dN.src ?_
      intro x N1 _ _ e1
      have dN1 := dN.trans e1
      by_cases hx : x = 0
      · simp (disch := omega) [hx]
        refine nx_does s 1002 _ _ dN1.src ?_
        intro y N2 _ hy e2
        have hy := hy (by omega)
        simp (disch := omega)
        exact ret_of (hend y N2 ⟨by omega, by omega⟩ (dN1.trans e2))
      · simp (disch := omega) [hx]
        exact ret_of (hend p N1 hp dN1)
  · have hk4' : ¬ (k : Int) < 4 := by omega
    simp (disch := omega) [hk4, hk4', undef]
    refine nx_does s 16 _ _ dN.src ?_
    intro x N1 _ _ e1
    have dN1 := dN.trans e1
    by_cases hx : x = 0
    · simp (disch := omega) [hx]
      refine nx_does s 1002 _ _ dN1.src ?_
      intro y N2 _ hy e2
      have hy := hy (by omega)
      simp (disch := omega)
      exact ret_of (hend y N2 ⟨by omega, by omega⟩ (dN1.trans e2))
    · simp (disch := omega) [hx]
      exact ret_of (hend p N1 hp dN1)
theorem drawWOS_does (v : Value) (xs : List UInt8) (M : Mem) (R : Value → Mem → Prop) (hv : Rd M v (bytesV xs)) (hl : xs.length ≤ 4096) (h : ∀ p q M', Sub M M' → NearOk p → NearOk q → R (.tuple #[.int .i64 p, .int .i64 q]) M') : Does Tryz.prog 26 [v] M R := by
  refine does_fn tab_ok Tryz.func26 rfl (by kernel_rfl) (by kernel_rfl) Tryz.ntmps26 Tryz.results26 rfl ?_
  simp (disch := omega)
  refine drawPair_does v xs _ _ hv hl ?_
  intro p q M1 s1 hp hq
  simp (disch := omega)
  exact ret_of (h p q M1 s1 hp hq)
theorem draw8_does (s : Rng) (M : Mem) (R : Value → Mem → Prop) (hs : SrcR M s) (h : ∀ w M', (w : List UInt8).length ≤ 200 → DrR s M M' → R (str w) M') : Does Tryz.prog 91 [.pointer (some ⟨s.b, 0, none⟩)] M R := by
  refine does_fn tab_ok Tryz.func91 rfl (by kernel_rfl) (by kernel_rfl) Tryz.ntmps91 Tryz.results91 rfl ?_
  simp (disch := omega)
  refine nx_does s 14 _ _ hs ?_
  intro p M1 _ hp d1
  have hp := hp (by omega)
  simp (disch := omega)
  refine nx_does s 14 _ _ d1.src ?_
  intro q M2 _ hq d2
  have hq := hq (by omega)
  obtain ⟨a, ha⟩ : ∃ a : Nat, 1 + p = a := ⟨(1 + p).toNat, by omega⟩
  obtain ⟨b, hb⟩ : ∃ b : Nat, 1 + q = b := ⟨(1 + q).toNat, by omega⟩
  have hab : 1 ≤ a ∧ a ≤ 14 ∧ 1 ≤ b ∧ b ≤ 14 := by omega
  simp (disch := omega) [ha, hb]
  refine nx_does s 6 _ _ d2.src ?_
  intro x M3 _ hx d3
  have hx := hx (by omega)
  have dd := (d1.trans d2).trans d3
  clear d1 d2 d3
  by_cases h01 : x = 0 ∨ x = 1
  · have hcase : (x = 0) ∨ (x ≠ 0 ∧ x = 1) := by omega
    have hgl := Nat.gcd_comm a b
    rcases hcase with h0 | ⟨h0, h1⟩
    · simp (disch := omega) [h0]
      refine l02Gcd_does a b _ _ (by omega) (by omega) ?_
      by_cases hG : Nat.gcd a b = 1
      · rw [hG]
        simp (disch := omega)
        refine l08Word_does a b _ _ (by omega) (by omega) ?_
        have hsl : (slopeL a b).length = a + b := stepL_len _ _ _ _
        simp (disch := omega)
        exact ret_of (h _ _ (by omega) dd)
      · have hGI : ¬ ((Nat.gcd a b : Nat) : Int) = 1 := by omega
        clear hgl
        generalize Nat.gcd a b = G at *
        simp (disch := omega) [hGI]
        refine nx_does s 12 _ _ dd.src ?_
        intro n M4 _ hn d4
        have hn := hn (by omega)
        simp (disch := omega)
        refine drawOf_does s n 2 _ _ d4.src (by omega) (by omega) ?_
        intro w M5 hw _ d5
        simp (disch := omega)
        exact ret_of (h w _ (by omega) ((dd.trans d4).trans d5))
    · simp (disch := omega) [h0, h1]
      refine l02Gcd_does a b _ _ (by omega) (by omega) ?_
      by_cases hG : Nat.gcd a b = 1
      · rw [hG]
        simp (disch := omega)
        refine l08Word_does a b _ _ (by omega) (by omega) ?_
        have hsl : (slopeL a b).length = a + b := stepL_len _ _ _ _
        simp (disch := omega)
        exact ret_of (h _ _ (by omega) dd)
      · have hGI : ¬ ((Nat.gcd a b : Nat) : Int) = 1 := by omega
        clear hgl
        generalize Nat.gcd a b = G at *
        simp (disch := omega) [hGI]
        refine nx_does s 12 _ _ dd.src ?_
        intro n M4 _ hn d4
        have hn := hn (by omega)
        simp (disch := omega)
        refine drawOf_does s n 2 _ _ d4.src (by omega) (by omega) ?_
        intro w M5 hw _ d5
        simp (disch := omega)
        exact ret_of (h w _ (by omega) ((dd.trans d4).trans d5))
  · have h0 : ¬ x = 0 := by omega
    have h1 : ¬ x = 1 := by omega
    by_cases h2 : x = 2
    · subst h2
      simp (disch := omega)
      refine nx_does s _ _ _ dd.src ?_
      intro c M4 _ _ d4
      simp (disch := omega)
      refine nx_does s 40 _ _ d4.src ?_
      intro n M5 _ hn d5
      simp (disch := omega)
      refine spec_SteppedWord _ _ c n _ _ (by split <;> omega) ?_
      have hln := stpW_len
      simp (disch := omega) [tup2]
      exact ret_of (h _ _ (by have := hln; exact Nat.le_trans (hln _ _ _ _) (by decide)) ((dd.trans d4).trans d5))
    · by_cases h3 : x = 3
      · subst h3
        simp (disch := omega)
        refine nx_does s 4 _ _ dd.src ?_
        intro y1 M4 _ hy1 d4
        have hy1 := hy1 (by omega)
        simp (disch := omega)
        refine nx_does s 3 _ _ d4.src ?_
        intro y2 M5 _ hy2 d5
        have hy2 := hy2 (by omega)
        simp (disch := omega)
        refine nx_does s 2 _ _ d5.src ?_
        intro y3 M6 _ hy3 d6
        have hy3 := hy3 (by omega)
        simp (disch := omega)
        refine nx_does s 2 _ _ d6.src ?_
        intro y4 M7 _ hy4 d7
        have hy4 := hy4 (by omega)
        have d7 := (((dd.trans d4).trans d5).trans d6).trans d7
        simp (disch := omega)
        intro bz hbz
        simp (disch := omega)
        have s8 := (Sub.refl M7).put hbz (.cells true (ints [y1, 1 + y2, 1 + y3, 1 + y4]) 4)
        refine spec_StandardWord _ [y1, 1 + y2, 1 + y3, 1 + y4] _ _ (Rd.new rfl (Nat.le_refl 4)) (by simp) ?_
        have hln := stdW_len [y1, 1 + y2, 1 + y3, 1 + y4]
        generalize stdW [y1, 1 + y2, 1 + y3, 1 + y4] = W at *
        generalize stdC [y1, 1 + y2, 1 + y3, 1 + y4] = C at *
        simp (disch := omega) [tup2]
        exact ret_of (h W _ (by omega) (d7.trans (DrR.sub d7.src s8)))
      · by_cases h4 : x = 4
        · subst h4
          simp (disch := omega)
          refine spoil_does s _ _ dd.src ?_
          intro w M4 hw d4
          simp (disch := omega)
          exact ret_of (h w _ hw (dd.trans d4))
        · simp (disch := omega) [h0, h1, h2, h3, h4]
          refine nx_does s 12 _ _ dd.src ?_
          intro n M4 _ hn d4
          have hn := hn (by omega)
          simp (disch := omega)
          refine drawOf_does s n 2 _ _ d4.src (by omega) (by omega) ?_
          intro w M5 hw _ d5
          simp (disch := omega)
          exact ret_of (h w _ (by omega) ((dd.trans d4).trans d5))
theorem drawSOW_does (v : Value) (xs : List UInt8) (M : Mem) (R : Value → Mem → Prop) (hv : Rd M v (bytesV xs)) (hl : xs.length ≤ 4096) (h : ∀ w M', Sub M M' → (w : List UInt8).length ≤ 200 → R (str w) M') : Does Tryz.prog 29 [v] M R := by
  refine does_fn tab_ok Tryz.func29 rfl (by kernel_rfl) (by kernel_rfl) Tryz.ntmps29 Tryz.results29 rfl ?_
  simp (disch := omega)
  refine from_does v xs _ _ hv hl ?_
  intro s M0 hs0 s0 hsrc
  simp (disch := omega)
  refine draw8_does s _ _ hsrc ?_
  intro w M1 hw d1
  simp (disch := omega)
  exact ret_of (h w _ (d1.keep M hs0 s0) hw)
theorem drawCut_does (v : Value) (xs : List UInt8) (M : Mem) (R : Value → Mem → Prop) (hv : Rd M v (bytesV xs)) (hl : xs.length ≤ 4096) (h : ∀ w M', Sub M M' → (w : List UInt8).length ≤ 200 → R (str w) M') : Does Tryz.prog 32 [v] M R := by
  refine does_fn tab_ok Tryz.func32 rfl (by kernel_rfl) (by kernel_rfl) Tryz.ntmps32 Tryz.results32 rfl ?_
  simp (disch := omega)
  refine from_does v xs _ _ hv hl ?_
  intro s M0 hs0 s0 hsrc
  simp (disch := omega)
  refine draw8_does s _ _ hsrc ?_
  intro w M1 hw d1
  simp (disch := omega)
  exact ret_of (h w _ (d1.keep M hs0 s0) hw)
theorem drawLOS_does (v : Value) (xs : List UInt8) (M : Mem) (R : Value → Mem → Prop) (hv : Rd M v (bytesV xs)) (hl : xs.length ≤ 4096) (h : ∀ w M', Sub M M' → (w : List UInt8).length ≤ 200 → R (str w) M') : Does Tryz.prog 45 [v] M R := by
  refine does_fn tab_ok Tryz.func45 rfl (by kernel_rfl) (by kernel_rfl) Tryz.ntmps45 Tryz.results45 rfl ?_
  simp (disch := omega)
  refine from_does v xs _ _ hv hl ?_
  intro s M0 hs0 s0 hsrc
  simp (disch := omega)
  refine draw8_does s _ _ hsrc ?_
  intro w M1 hw d1
  simp (disch := omega)
  exact ret_of (h w _ (d1.keep M hs0 s0) hw)
end Go.Proofs.YticejlplbibegaaGreatDoor

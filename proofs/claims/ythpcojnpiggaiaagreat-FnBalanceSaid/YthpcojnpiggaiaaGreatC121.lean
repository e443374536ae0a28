/- Contracts: numbers of factors of all lengths, of the program; draws of words that are balanced, of words and numbers, of three numbers. -/
import Derived.Test.YthpcojnpiggaiaaGreatC81
import Derived.Test.YthpcojnpiggaiaaGreatC114
namespace Go.Proofs.YthpcojnpiggaiaaGreat
open Go
set_option linter.unusedSimpArgs false
set_option linter.unusedVariables false

def cpR (w : List UInt8) (n : Nat) : List Int := (List.range n).map fun m => ((facL w m).length : Int)
theorem cpR_snoc (w : List UInt8) (n : Nat) : cpR w (n + 1) = cpR w n ++ [((facL w n).length : Int)] := by simp [cpR, List.range_succ]
theorem cpR_len (w : List UInt8) (n : Nat) : (cpR w n).length = n := by simp [cpR]
theorem complexity_does (w : List UInt8) (M : Mem) (R : Value → Mem → Prop) (h60 : w.length ≤ 60) (h : ∀ v M', Own M v (ints (cpR w (w.length + 1))) M' → R v M') : Does Tryz.prog 91 [str w] M R := by
  refine does_fn tab_ok Tryz.func91 rfl (by kernel_rfl) (by kernel_rfl) Tryz.ntmps91 Tryz.results91 rfl ?_
  simp (disch := omega)
  refine loop_to tab_ok [3, 4, 8, 9, 10, 11, 12, 13, 14, 15, 16, 17, 18] (fun x : Nat × Value => [(8, .int .i64 (x.1 : Nat)), (3, x.2)]) (fun x N => x.1 ≤ w.length + 1 ∧ ∃ Mb, Sub M Mb ∧ Own Mb x.2 (ints (cpR w x.1)) N) (fun x => w.length + 1 - x.1) (0, .slice none 0 0) (by kernel_rfl) (by simp (disch := omega)) ⟨by simp only; omega, M, Sub.refl _, Own.nil _⟩ ?_
  rintro ⟨m, vo⟩ N g ⟨hm, Mb, sB, o⟩
  simp only at hm o
  have hal := cpR_len w m
  by_cases hlt : m < w.length + 1
  · have hltI : (m : Int) < (w.length : Int) + 1 := by omega
    simp (disch := omega) [hltI]
    refine factorsL_does w m _ _ h60 (by omega) ?_
    intro vf N1 rf s1
    have hfl := facL_len h60 m
    obtain ⟨af, cf, hve, haf⟩ := rf.opened
    rw [strs_length] at hve
    subst hve
    simp (disch := omega)
    intro b' hb'
    simp (disch := omega)
    refine app_own o (s1.trans ((Sub.refl _).put hb' _)) (by simp (disch := omega); rfl) rfl rfl (by omega) (by simp (disch := omega)) (by simp (disch := omega); omega) ?_
    intro v' M'' N'' o' s'
    rw [ints_snoc, ← cpR_snoc] at o'
    simp (disch := omega)
    refine Rnd.mk'' M'' (m + 1, v') s' (by simp only; omega) (by (repeat (first | exact km | refine kp rfl ?_ | refine km' rfl ?_))) (by simp (disch := omega)) ⟨by simp only; omega, Mb, sB, o'⟩
  · have hltI : ¬ (m : Int) < (w.length : Int) + 1 := by omega
    have hmE : m = w.length + 1 := by omega
    subst hmE
    obtain ⟨M2, o2, s2⟩ := o.base sB
    simp (disch := omega) [hltI]
    exact ret_sub s2 (h _ _ o2)
theorem impl_ComplexityOf (w : List UInt8) (M : Mem) (R : Value → Mem → Prop) (hl : w.length ≤ 1099511627776) (h : ∀ v M', Sub M M' → Rd M' v (ints (if isWord w then cpR w (w.length + 1) else [])) → R (tup2 v (wcode w)) M') : Does Tryz.prog 40 [str w] M R := by
  refine does_fn tab_ok Tryz.func40 rfl (by kernel_rfl) (by kernel_rfl) Tryz.ntmps40 Tryz.results40 rfl ?_
  simp (disch := omega)
  intro b1 hb1
  simp (disch := omega)
  have hs1 : Sub M (M.put b1 (.cells true [str w] 1)) := (Sub.refl _).put hb1 _
  refine wordCode_does _ _ [w] true (fun _ => True) _ _ (Rd.new rfl (Nat.le_refl 1)) (fine1 hl) (by simp) trivial stab_true (always_tells _) ?_
  rw [codeOf1]
  unfold tup2 wcode at h
  cases hw : isWord w
  · rw [hw] at h
    simp (disch := omega)
    exact ret_of (h _ _ hs1 (.inl ⟨none, 0, rfl, rfl⟩))
  · rw [hw] at h
    have h60 := isWord_len hw
    simp (disch := omega)
    refine complexity_does w _ _ h60 ?_
    intro v M1 o1
    simp (disch := omega)
    exact ret_of (h v M1 (hs1.trans o1.sub) o1.rd)
theorem drawBal7_does (v : Value) (xs : List UInt8) (M : Mem) (R : Value → Mem → Prop) (hv : Rd M v (bytesV xs)) (hl : xs.length ≤ 4096) (h : ∀ w M', Sub M M' → (w : List UInt8).length ≤ 300 → R (str w) M') : Does Tryz.prog 83 [v] M R := by
  refine does_fn tab_ok Tryz.func83 rfl (by kernel_rfl) (by kernel_rfl) Tryz.ntmps83 Tryz.results83 rfl ?_
  simp (disch := omega)
  refine from_does v xs _ _ hv hl ?_
  intro s M0 hs0 s0 hsrc
  simp (disch := omega)
  refine nx_does s 2 _ _ hsrc ?_
  intro x M1 _ hx d1
  by_cases h0 : x = 0
  · simp (disch := omega) [h0]
    refine spoil_does s _ _ d1.src ?_
    intro w M2 hw d2
    simp (disch := omega)
    exact ret_of (h w _ ((d1.trans d2).keep M hs0 s0) (by omega))
  · simp (disch := omega) [h0]
    refine nx_does s 8 _ _ d1.src ?_
    intro a M2 _ ha d2
    have ha := ha (by omega)
    have d2 := d1.trans d2
    simp (disch := omega)
    refine nx_does s 8 _ _ d2.src ?_
    intro b M3 _ hb d3
    have hb := hb (by omega)
    have d3 := d2.trans d3
    simp (disch := omega)
    refine nx_does s 30 _ _ d3.src ?_
    intro n M4 _ hn d4
    have hn := hn (by omega)
    have d4 := d3.trans d4
    obtain ⟨a, rfl⟩ : ∃ k : Nat, a = k := ⟨a.toNat, by omega⟩
    obtain ⟨b, rfl⟩ : ∃ k : Nat, b = k := ⟨b.toNat, by omega⟩
    obtain ⟨n, rfl⟩ : ∃ k : Nat, n = k := ⟨n.toNat, by omega⟩
    simp (disch := omega)
    refine loop_to tab_ok [6, 7, 8, 23, 24, 25, 26, 27, 28, 29, 30, 31, 32, 33, 34, 35, 36, 37, 38] (fun x : Nat × List UInt8 => [(7, .int .i64 ((n : Int) - (x.1 : Nat))), (6, str x.2)]) (fun x N => x.1 ≤ n ∧ x.2.length = x.1 ∧ DrR s M0 N) (fun x => n - x.1) (0, []) (by kernel_rfl) (by simp (disch := omega)) ⟨Nat.zero_le _, rfl, d4⟩ ?_
    rintro ⟨k, w⟩ N g ⟨hk, hwl, dN⟩
    simp only at hk hwl
    by_cases hkn : k < n
    · have hpos : (0 : Int) < (n : Int) - k := by omega
      obtain ⟨p, hp⟩ : ∃ p, p = (k + 1) * a := ⟨_, rfl⟩
      have hp' : p ≤ 31 * 8 := by rw [hp]; exact Nat.mul_le_mul (by omega) (by omega)
      have e1 : ((k : Int) + 1) * a = p := by rw [hp]; push_cast; rfl
      obtain ⟨q, hq⟩ : ∃ q, q = p / (1 + b) := ⟨_, rfl⟩
      have e2 : (p : Int).tdiv (1 + (b : Int)) = (q : Int) := by rw [Int.tdiv_eq_ediv_of_nonneg (by omega), hq]; push_cast; rfl
      have hqp : q ≤ p := by rw [hq]; exact Nat.div_le_self _ _
      obtain ⟨r, hr⟩ : ∃ r, r = q % 2 := ⟨_, rfl⟩
      have e3 : (q : Int).tmod 2 = (r : Int) := by rw [Int.tmod_eq_emod_of_nonneg (by omega), hr]; push_cast; rfl
      have e4 : (n : Int) - ((k : Int) + 1) = (n : Int) - k - 1 := by omega
      simp (disch := omega) [hpos, hwl, e1, e2, e3]
      refine letterA_does r _ _ (by omega) ?_
      intro N3 s3
      simp (disch := omega)
      refine Rnd.mk' (k + 1, w ++ [ltr r]) (by simp only; omega) (by (repeat (first | exact km | refine kp rfl ?_ | refine km' rfl ?_))) (by simp (disch := omega) [e4]) ⟨by simp only; omega, by simp only [List.length_append, List.length_singleton]; omega, dN.trans (DrR.sub dN.src s3)⟩
    · have hpos : ¬ (0 : Int) < (n : Int) - k := by omega
      simp (disch := omega) [hpos]
      refine bad_does s w _ _ dN.src (by omega) ?_
      intro w2 M5 hw2 d5
      simp (disch := omega)
      exact ret_of (h w2 _ ((dN.trans d5).keep M hs0 s0) (by omega))
theorem drawBO_does (v : Value) (xs : List UInt8) (M : Mem) (R : Value → Mem → Prop) (hv : Rd M v (bytesV xs)) (hl : xs.length ≤ 4096) (h : ∀ w M', Sub M M' → (w : List UInt8).length ≤ 300 → R (str w) M') : Does Tryz.prog 29 [v] M R := by
  refine does_fn tab_ok Tryz.func29 rfl (by kernel_rfl) (by kernel_rfl) Tryz.ntmps29 Tryz.results29 rfl ?_
  simp (disch := omega)
  refine drawBal7_does v xs _ _ hv hl ?_
  intro w M1 s1 hw
  simp (disch := omega)
  exact ret_of (h w M1 s1 hw)
theorem drawSO_does (v : Value) (xs : List UInt8) (M : Mem) (R : Value → Mem → Prop) (hv : Rd M v (bytesV xs)) (hl : xs.length ≤ 4096) (h : ∀ w k M', Sub M M' → (w : List UInt8).length ≤ 300 → NearOk k → R (.tuple #[str w, .int .i64 k]) M') : Does Tryz.prog 98 [v] M R := by
  refine does_fn tab_ok Tryz.func98 rfl (by kernel_rfl) (by kernel_rfl) Tryz.ntmps98 Tryz.results98 rfl ?_
  simp (disch := omega)
  refine from_does v xs _ _ hv hl ?_
  intro s M0 hs0 s0 hsrc
  have fin : ∀ M', DrR s M0 M' → Sub M M' := fun M' d => d.keep M hs0 s0
  simp (disch := omega)
  refine spoil_does s _ _ hsrc ?_
  intro w M1 hw dd
  simp (disch := omega)
  refine near2_does s 60 _ _ dd.src (by omega) ?_
  intro x M3 hx e3
  have dd := dd.trans e3
  simp (disch := omega)
  intro b1 hb1
  simp (disch := omega)
  refine pickN_does s b1 10 [0, 1, 1, 2, 2, 3, 4, 5, 9, x] _ _ _ dd.src hb1 rfl rfl (by simp) (by simp) ?_
  intro k hk M4 e4
  have hk : NearOk k := by
    simp only [List.mem_cons, List.not_mem_nil, or_false] at hk
    unfold NearOk at *
    omega
  simp (disch := omega)
  exact ret_of (h w k _ (fin _ (dd.trans e4)) (by omega) hk)
theorem drawSuO_does (v : Value) (xs : List UInt8) (M : Mem) (R : Value → Mem → Prop) (hv : Rd M v (bytesV xs)) (hl : xs.length ≤ 4096) (h : ∀ w k M', Sub M M' → (w : List UInt8).length ≤ 300 → NearOk k → R (.tuple #[str w, .int .i64 k]) M') : Does Tryz.prog 45 [v] M R := by
  refine does_fn tab_ok Tryz.func45 rfl (by kernel_rfl) (by kernel_rfl) Tryz.ntmps45 Tryz.results45 rfl ?_
  simp (disch := omega)
  refine drawSO_does v xs _ _ hv hl ?_
  intro w k M1 s1 hw hk
  simp (disch := omega)
  exact ret_of (h w k M1 s1 hw hk)
theorem drawFAF_does (v : Value) (xs : List UInt8) (M : Mem) (R : Value → Mem → Prop) (hv : Rd M v (bytesV xs)) (hl : xs.length ≤ 4096) (h : ∀ m j k M', Sub M M' → NearOk m → R (.tuple #[.int .i64 m, .int .i64 j, .int .i64 k]) M') : Does Tryz.prog 42 [v] M R := by
  refine does_fn tab_ok Tryz.func42 rfl (by kernel_rfl) (by kernel_rfl) Tryz.ntmps42 Tryz.results42 rfl ?_
  simp (disch := omega)
  refine from_does v xs _ _ hv hl ?_
  intro s M0 hs0 s0 hsrc
  have fin : ∀ M', DrR s M0 M' → Sub M M' := fun M' d => d.keep M hs0 s0
  simp (disch := omega)
  refine near2_does s 16 _ _ hsrc (by omega) ?_
  intro m M1 hm dd
  simp (disch := omega)
  intro b1 hb1
  simp (disch := omega)
  refine pickN_does s b1 8 [1, 2, 2, 3, 3, 4, 0, 5] _ _ _ dd.src hb1 rfl rfl (by simp) (by simp) ?_
  intro j hj M2 e2
  have dd := dd.trans e2
  simp (disch := omega)
  intro b2 hb2
  simp (disch := omega)
  refine pickN_does s b2 6 [2, 2, 3, 4, 1, 5] _ _ _ dd.src hb2 rfl rfl (by simp) (by simp) ?_
  intro k hk M3 e3
  have dd := dd.trans e3
  simp (disch := omega)
  exact ret_of (h m j k _ (fin _ dd) hm)
end Go.Proofs.YthpcojnpiggaiaaGreat

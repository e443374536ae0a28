/- Contracts: all words of a length. -/
import Derived.Test.YticejlplbibegaaGreatDoorC12
import Derived.Test.YticejlplbibegaaGreatDoorC13
namespace Go.Proofs.YticejlplbibegaaGreatDoor
open Go
set_option linter.unusedSimpArgs false
set_option linter.unusedVariables false

/-- A word with one of the first c letters behind it. -/
def grow1 (w : List UInt8) (c : Nat) : List (List UInt8) := (List.range c).map fun x => w ++ [ltr x]
def growA (out : List (List UInt8)) (k : Nat) : List (List UInt8) := out.flatMap fun w => grow1 w k
def allW (k : Nat) : Nat → List (List UInt8)
  | 0 => [[]]
  | m + 1 => growA (allW k m) k
theorem grow1_succ (w : List UInt8) (c : Nat) : grow1 w (c + 1) = grow1 w c ++ [w ++ [ltr c]] := by simp [grow1, List.range_succ]
theorem growA_snoc (out : List (List UInt8)) (w : List UInt8) (k : Nat) : growA (out ++ [w]) k = growA out k ++ grow1 w k := by simp [growA]
theorem growA_len (out : List (List UInt8)) (k : Nat) : (growA out k).length = out.length * k := by
  induction out with
  | nil => simp [growA]
  | cons w out ih =>
    have : growA (w :: out) k = grow1 w k ++ growA out k := by simp [growA]
    rw [this, List.length_append, ih, List.length_cons, Nat.succ_mul]
    simp [grow1]; omega
theorem allW_len (k : Nat) : ∀ m, (allW k m).length = k ^ m
  | 0 => rfl
  | m + 1 => by rw [allW, growA_len, allW_len k m, Nat.pow_succ]
theorem allW_word (k : Nat) : ∀ m, ∀ w ∈ allW k m, w.length = m
  | 0 => by simp [allW]
  | m + 1 => by
    intro w hw
    obtain ⟨u, hu, hw⟩ := List.mem_flatMap.1 hw
    obtain ⟨x, _, rfl⟩ := List.mem_map.1 hw
    rw [List.length_append, allW_word k m u hu]; rfl
theorem allW_fine (k m : Nat) (h : m ≤ 60) : Fine (allW k m) := fun w hw => by rw [allW_word k m w hw]; omega
theorem pow_step {k m : Nat} (hk : k ≤ 5) (h : k ^ m ≤ 256) : k ^ (m + 1) ≤ 1280 := by
  rw [Nat.pow_succ]
  exact Nat.mul_le_mul h hk
def inW (m k : Int) : Bool := decide (0 ≤ m ∧ m ≤ 60) && decide (1 ≤ k ∧ k ≤ 5)
def wordsR (m k : Int) : List (List UInt8) := if inW m k then (if k.toNat ^ m.toNat ≤ 256 then allW k.toNat m.toNat else []) else []
def wordsC (m k : Int) : Int := if inW m k then (if k.toNat ^ m.toNat ≤ 256 then 0 else 3) else 2
theorem impl_words_does (m k : Nat) (M : Mem) (R : Value → Mem → Prop) (hm : m ≤ 60) (hk : 1 ≤ k) (hk' : k ≤ 5)
    (h1 : k ^ m ≤ 256 → ∀ v M', Own M v (strs (allW k m)) M' → R (.tuple #[v, .bool true]) M') (h0 : 256 < k ^ m → R (.tuple #[.slice none 0 0, .bool false]) M) : Does Tryz.prog 113 [.int .i64 m, .int .i64 k, .int .i64 256] M R := by
  refine does_fn tab_ok Tryz.func113 rfl (by kernel_rfl) (by kernel_rfl) Tryz.ntmps113 Tryz.results113 rfl ?_
  simp (disch := omega)
  intro b0 hb0
  simp (disch := omega)
  refine loop_to tab_ok [6, 7, 8, 9, 11, 12, 15, 16, 17, 18, 19, 20, 21, 22, 23, 24, 25, 26, 27, 28, 29, 30, 31, 32, 33, 34, 35, 36, 37, 38, 39, 40, 41] (fun x : Nat × Value => [(15, .int .i64 x.1), (8, x.2)]) (fun x M' => x.1 ≤ m ∧ k ^ x.1 ≤ 256 ∧ Own M x.2 (strs (allW k x.1)) M') (fun x => m - x.1) (0, .slice (some ⟨b0, 0, none⟩) 1 1) (by kernel_rfl) (by simp (disch := omega)) ⟨by omega, by simp, Own.new hb0 rfl (Nat.le_refl 1)⟩ ?_
  rintro ⟨i, v⟩ M' g ⟨hi, hle, ho⟩
  simp only at hi hle ho
  obtain ⟨r, hr⟩ : ∃ r, r = k ^ i := ⟨_, rfl⟩
  rw [← hr] at hle
  by_cases hlt : i < m
  · obtain ⟨a, c, rfl, ha⟩ := ho.rd.opened
    have hl : (allW k i).length = r := by rw [hr]; exact allW_len k i
    rw [strs_length, hl] at ha ho ⊢
    simp (disch := omega)
    refine loop_to tab_ok [9, 11, 12, 19, 20, 21, 22, 23, 24, 25, 26, 27, 28, 29, 30, 31, 32, 33, 34, 35] (fun x : Nat × Value => [(19, .int .i64 x.1), (9, x.2)]) (fun x M1 => x.1 ≤ r ∧ Own M' x.2 (strs (growA ((allW k i).take x.1) k)) M1) (fun x => r - x.1) (0, .slice none 0 0) (by kernel_rfl) (by simp (disch := omega)) ⟨by omega, Own.nil _⟩ ?_
    rintro ⟨j, v1⟩ M1 g1 ⟨hj, ho1⟩
    simp only at hj ho1
    by_cases hjl : j < r
    · rcases ha with h0 | ⟨b, o, rfl, ha⟩
      · omega
      have hjl' : j < (allW k i).length := by omega
      have hx : (allW k i)[j]? = some (allW k i)[j] := List.getElem?_eq_getElem hjl'
      obtain ⟨w, hw⟩ : ∃ w, (allW k i)[j] = w := ⟨_, rfl⟩
      have hwl : w.length = i := by rw [← hw]; exact allW_word k i _ (List.getElem_mem hjl')
      have hg0 := ha j hjl
      rw [strs_get, hx, hw] at hg0
      have hg : M1.get? b (o + j) = some (str w) := by
        have e : M'.get? b (o + j) = some (str w) := hg0
        unfold Mem.get? at e ⊢
        cases hMb : M' b with
        | none => rw [hMb] at e; cases e
        | some B => rw [hMb] at e; rw [ho1.sub _ _ hMb]; exact e
      simp (disch := omega) [hg]
      refine loop_to tab_ok [9, 12, 24, 25, 26, 27, 28, 29, 30, 31, 32, 33, 34] (fun x : Nat × Value => [(24, .int .i64 x.1), (9, x.2)]) (fun x M2 => x.1 ≤ k ∧ Own M' x.2 (strs (growA ((allW k i).take j) k ++ grow1 w x.1)) M2) (fun x => k - x.1) (0, v1) (by kernel_rfl) (by simp (disch := omega)) ⟨by omega, by simpa [grow1] using ho1⟩ ?_
      rintro ⟨y, v2⟩ M2 g2 ⟨hy, ho2⟩
      simp only at hy ho2
      by_cases hyl : y < k
      · have hcnt : (growA ((allW k i).take j) k ++ grow1 w y).length ≤ 2000 := by
          rw [List.length_append, growA_len, List.length_take]
          have h1 : min j (allW k i).length * k ≤ 256 * 5 := Nat.mul_le_mul (by omega) hk'
          have h2 : (grow1 w y).length = y := by simp [grow1]
          omega
        simp (disch := omega)
        refine letterN_does y _ _ (by omega) ?_
        simp (disch := omega)
        intro b' hb'
        simp (disch := omega)
        refine app_own ho2 ((Sub.refl _).put hb' _) (by simp (disch := omega); rfl) rfl rfl (by omega) (by simp (disch := omega)) (by simp (disch := omega); simp only [List.length_append] at hcnt; omega) ?_
        intro v' M'' N'' ho' hs'
        simp (disch := omega)
        refine Rnd.mk'' M'' (y + 1, v') hs' (by simp only; omega) (by (repeat (first | exact km | refine kp rfl ?_ | refine km' rfl ?_))) (by simp (disch := omega)) ⟨by simp only; omega, ?_⟩
        simp only
        rw [grow1_succ, ← List.append_assoc, ← strs_snoc]
        exact ho'
      · have hy' : y = k := by omega
        subst hy'
        simp (disch := omega)
        refine Rnd.mk' (j + 1, v2) (by simp only; omega) (by (repeat (first | exact km | refine kp rfl ?_ | refine km' rfl ?_))) (by simp (disch := omega)) ⟨by simp only; omega, ?_⟩
        simp only
        rw [take_snoc _ hjl', hw, growA_snoc]
        exact ho2
    · have hj' : j = r := by omega
      have htk : (allW k i).take j = allW k i := List.take_of_length_le (by omega)
      rw [htk] at ho1
      have e : growA (allW k i) k = allW k (i + 1) := rfl
      rw [e] at ho1
      have hl2 := allW_len k (i + 1)
      have hp := pow_step hk' (by rw [← hr]; exact hle)
      have ho3 := ho1.base ho.sub
      obtain ⟨a2, c2, rfl, ha2⟩ := ho1.rd.opened
      rw [strs_length, hl2] at ho3 ⊢
      by_cases hbig : (256 : Int) < (k ^ (i + 1) : Nat)
      · have hmon : k ^ (i + 1) ≤ k ^ m := Nat.pow_le_pow_right hk (by omega)
        obtain ⟨q, hq⟩ : ∃ q, q = k ^ (i + 1) := ⟨_, rfl⟩
        rw [← hq] at hbig ⊢
        simp (disch := omega) [hbig]
        exact ret_sub (ho.sub.trans ho1.sub) (h0 (by omega))
      · obtain ⟨q, hq⟩ : ∃ q, q = k ^ (i + 1) := ⟨_, rfl⟩
        rw [← hq] at hbig ho3 ⊢
        simp (disch := omega) [hbig]
        obtain ⟨M3, o3, s3⟩ := ho3
        refine Rnd.mk'' M3 (i + 1, .slice a2 q c2) s3 (by simp only; omega) (by (repeat (first | exact km | refine kp rfl ?_ | refine km' rfl ?_))) (by simp (disch := omega)) ⟨by simp only; omega, by rw [← hq]; omega, o3⟩
  · have hi' : i = m := by omega
    subst hi'
    simp (disch := omega)
    exact ret_of (h1 (by rw [← hr]; exact hle) v M' ho)
end Go.Proofs.YticejlplbibegaaGreatDoor

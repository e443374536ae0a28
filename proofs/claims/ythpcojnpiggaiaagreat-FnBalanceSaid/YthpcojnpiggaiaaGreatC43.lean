/- Contracts: sources of numbers, and small lists of numbers, of the laws. -/
import Derived.Test.YthpcojnpiggaiaaGreatC14
import Derived.Test.YthpcojnpiggaiaaGreatC17
import Derived.Test.YthpcojnpiggaiaaGreatEB
namespace Go.Proofs.YthpcojnpiggaiaaGreat
open Go
set_option linter.unusedSimpArgs false
set_option linter.unusedVariables false

/-- A source of numbers: a struct of a list of bytes, a place in it, and a word. -/
def Src (M : Mem) (b : Nat) : Prop := ∃ (v : Value) (xs : List UInt8) (i : Nat) (h : Int), M b = some (.cells true [v, .int .i64 i, .int .u64 h] 3) ∧ Rd (M.del b) v (bytesV xs) ∧ xs.length ≤ 140737488355328 ∧ i ≤ xs.length
/-- What a draw changes: the source alone. -/
structure Dr (b : Nat) (M M' : Mem) : Prop where
  keep : ∀ D : Mem, D b = none → Sub D M → Sub D M'
  src : Src M' b
theorem Dr.refl {b : Nat} {M : Mem} (h : Src M b) : Dr b M M := ⟨fun _ _ h => h, h⟩
theorem Dr.trans {b : Nat} {A B C : Mem} (h : Dr b A B) (k : Dr b B C) : Dr b A C := ⟨fun D hD hs => k.keep D hD (h.keep D hD hs), k.src⟩
theorem del_none (M : Mem) (b : Nat) : (M.del b) b = none := by simp [Mem.del]
theorem del_subM (M : Mem) (b : Nat) : Sub (M.del b) M := by
  intro i B hi
  by_cases e : i = b
  · simp [Mem.del, e] at hi
  · simpa [Mem.del, e] using hi
theorem sub_delM {D M : Mem} {b : Nat} (hs : Sub D M) (hb : D b = none) : Sub D (M.del b) := by
  intro i B hi
  have hne : i ≠ b := by rintro rfl; rw [hb] at hi; cases hi
  simp only [Mem.del, if_neg hne]
  exact hs _ _ hi
theorem Src.told {M : Mem} {b : Nat} (h : Src M b) : M b ≠ none := by
  obtain ⟨v, xs, i, hh, hM, _⟩ := h
  rw [hM]; intro q; cases q
/-- Where the block stands and all else is still told, the source is still one. -/
theorem Src.sub {M N : Mem} {b : Nat} (h : Src M b) (hs : Sub M N) : Src N b := by
  obtain ⟨v, xs, i, hh, hM, hv, hl, hi⟩ := h
  refine ⟨v, xs, i, hh, hs _ _ hM, hv.sub ?_, hl, hi⟩
  intro j B hj
  by_cases e : j = b
  · simp [Mem.del, e] at hj
  · simp only [Mem.del, if_neg e] at hj ⊢
    exact hs _ _ hj
theorem Dr.sub {b : Nat} {M N : Mem} (h : Src M b) (hs : Sub M N) : Dr b M N := ⟨fun _ _ hD => hD.trans hs, h.sub hs⟩
/-- A source written anew. -/
theorem Src.store {M : Mem} {b : Nat} {v : Value} {xs : List UInt8} (hv : Rd (M.del b) v (bytesV xs)) (hl : xs.length ≤ 140737488355328) {i : Nat} (hi : i ≤ xs.length) (h : Int) : Dr b M (M.put b (.cells true [v, .int .i64 i, .int .u64 h] 3)) := by
  refine ⟨fun D hD hs => ?_, v, xs, i, h, put_same _ _ _, hv.sub ?_, hl, hi⟩
  · intro j B hj
    have : j ≠ b := by rintro rfl; rw [hD] at hj; cases hj
    rw [put_ne _ _ this]
    exact hs _ _ hj
  · intro j B hj
    by_cases e : j = b
    · simp [Mem.del, e] at hj
    · simp only [Mem.del, if_neg e] at hj ⊢
      rw [put_ne _ _ e]; exact hj
/-- What the mask leaves of a word. -/
theorem mask24 (a : Nat) : ∃ r : Nat, r ≤ 16777215 ∧ IntKind.i64.wrap (IntKind.u64.wrap ((a &&& 16777215 % 2 ^ IntKind.u64.bits : Nat) : Int)) = r := by
  have e : 16777215 % 2 ^ IntKind.u64.bits = 16777215 := by decide
  rw [e]
  have h : a &&& 16777215 ≤ 16777215 := Nat.and_le_right
  refine ⟨a &&& 16777215, h, ?_⟩
  generalize a &&& 16777215 = r at *
  simp [IntKind.wrap, IntKind.bits, IntKind.signed]
  omega
theorem tmod_in {a n : Int} (ha : 0 ≤ a) (hn : 1 ≤ n) : 0 ≤ a.tmod n ∧ a.tmod n < n := by
  rw [Int.tmod_eq_emod_of_nonneg ha]
  exact ⟨Int.emod_nonneg _ (by omega), Int.emod_lt_of_pos _ (by omega)⟩
theorem l01Next_does (b : Nat) (n : Int) (M : Mem) (R : Value → Mem → Prop) (hs : Src M b) (h : ∀ x M', (n < 1 → x = 0) → (1 ≤ n → 0 ≤ x ∧ x < n) → Dr b M M' → R (.int .i64 x) M') : Does Tryz.prog 52 [.pointer (some ⟨b, 0, none⟩), .int .i64 n] M R := by
  have hs0 := hs
  obtain ⟨v, xs, i, w, hM, hv, hl, hi⟩ := hs
  obtain ⟨a, c, rfl, ha⟩ := hv.opened
  rw [bytesV_length] at ha hv hM
  refine does_fn tab_ok Tryz.func52 rfl (by kernel_rfl) (by kernel_rfl) Tryz.ntmps52 Tryz.results52 rfl ?_
  by_cases hn : n < 1
  · simp (disch := omega) [hn]
    exact ret_of (h 0 M (fun _ => rfl) (fun hq => by omega) (Dr.refl hs0))
  · simp (disch := omega) [hn, hM, get_of hM, set_is]
    obtain ⟨r, hr, er⟩ := mask24 ((IntKind.u64.wrap (IntKind.u64.wrap (w * 6364136223846793005) + 1442695040888963407)).fdiv (2 ^ min 33 IntKind.u64.bits) % 2 ^ IntKind.u64.bits).toNat
    rw [er]
    clear er
    generalize IntKind.u64.wrap (IntKind.u64.wrap (w * 6364136223846793005) + 1442695040888963407) = w1
    have d1 := Src.store hv hl hi w1
    have hN : (M.put b (.cells true [.slice a xs.length c, .int .i64 i, .int .u64 w1] 3)) b = some (.cells true [.slice a xs.length c, .int .i64 i, .int .u64 w1] 3) := put_same _ _ _
    have hvN : Rd ((M.put b (.cells true [.slice a xs.length c, .int .i64 i, .int .u64 w1] 3)).del b) (.slice a xs.length c) (bytesV xs) := by
      have e : (M.put b (.cells true [.slice a xs.length c, .int .i64 i, .int .u64 w1] 3)).del b = M.del b := by
        funext j
        by_cases q : j = b
        · simp [Mem.del, q]
        · simp [Mem.del, q, put_ne _ _ q]
      rw [e]; exact hv
    generalize M.put b (.cells true [.slice a xs.length c, .int .i64 i, .int .u64 w1] 3) = N at *
    refine draws [0, 1, 2, 3, 4, 5, 6, 7, 8, 9] [0, 0, 0, 0, 0, 0, 0, 0, 0, 0] tab_ok (by kernel_rfl) (by kernel_rfl) (by kernel_rfl) (by rfl) ?_
    by_cases hil : i < xs.length
    · have hil' : (i : Int) < xs.length := by omega
      rcases ha with hz | ⟨b2, o2, rfl, ha⟩
      · omega
      have hg := ha i hil
      unfold bytesV at hg
      rw [List.getElem?_map, List.getElem?_eq_getElem hil, Option.map_some] at hg
      have hg2 := get_keep hg (sub_delM (D := M.del b) (d1.keep _ (del_none _ _) (del_subM _ _)) (del_none _ _) |>.trans (del_subM _ _))
      have hu := xs[i].toNat_lt
      generalize xs[i] = u at *
      have d2 := Src.store hvN hl (show i + 1 ≤ xs.length by omega) w1
      have d12 := d1.trans d2
      have ex := fun z hz => @tmod_in (r + z) n (by omega) (by omega)
      simp (disch := omega) [get_of hN, hil']
      refine draws [0, 1, 2, 3, 4, 5, 6, 7, 8, 9, 10, 11, 12, 13] [0, 0, 0, 0, 0, 0, 0, 0, 0, 0, 0, 0, 0, 0] tab_ok (by kernel_rfl) (by kernel_rfl) (by kernel_rfl) (by rfl) ?_
      have hn0 : ¬ n = 0 := by omega
      simp (disch := omega) [get_of hN, hN, hil', hg2, set_is, hn0]
      obtain ⟨x1, x2⟩ := ex u.toNat (by omega)
      exact ret_of (h _ _ (fun hq => absurd hq hn) (fun _ => ⟨x1, x2⟩) d12)
    · have hil' : ¬ (i : Int) < xs.length := by omega
      have hn0 : ¬ n = 0 := by omega
      obtain ⟨x1, x2⟩ := @tmod_in r n (by omega) (by omega)
      simp (disch := omega) [get_of hN, hil', hn0]
      exact ret_of (h _ _ (fun hq => absurd hq hn) (fun _ => ⟨x1, x2⟩) d1)
theorem src_new {M : Mem} {b : Nat} {v : Value} {xs : List UInt8} (hb : M b = none) (hv : Rd M v (bytesV xs)) (hl : xs.length ≤ 140737488355328) (w : Int) : Src (M.put b (.cells true [v, .int .i64 0, .int .u64 w] 3)) b := by
  refine ⟨v, xs, 0, w, put_same _ _ _, hv.sub ?_, hl, Nat.zero_le _⟩
  exact sub_delM ((Sub.refl M).put hb _) hb
theorem l01From_does (v : Value) (xs : List UInt8)  (M : Mem) (R : Value → Mem → Prop) (hv : Rd M v (bytesV xs)) (hl : xs.length ≤ 4096) (h : ∀ b M', M b = none → Sub M M' → Src M' b → R (.pointer (some ⟨b, 0, none⟩)) M') : Does Tryz.prog 49 [v] M R := by
  obtain ⟨a, c, rfl, ha⟩ := hv.opened
  rw [bytesV_length] at ha hv ⊢
  refine does_fn tab_ok Tryz.func49 rfl (by kernel_rfl) (by kernel_rfl) Tryz.ntmps49 Tryz.results49 rfl ?_
  simp (disch := omega)
  intro b hb
  simp (disch := omega)
  refine loop_to tab_ok [4, 12, 13, 14, 15, 16, 17, 18, 19, 20, 21, 22, 23, 24, 25, 26, 27, 28, 29, 30, 31, 32, 33, 34, 35, 36] (fun x : Nat × Int => [(4, .int .i64 x.1)]) (fun x M' => x.1 ≤ xs.length ∧ M' = M.put b (.cells true [.slice a xs.length c, .int .i64 0, .int .u64 x.2] 3)) (fun x => xs.length - x.1) (0, _) (by kernel_rfl) (by simp (disch := omega)) ⟨Nat.zero_le _, rfl⟩ ?_
  rintro ⟨i, w⟩ M' g ⟨hi, rfl⟩
  simp only at hi
  have hN : (M.put b (.cells true [.slice a xs.length c, .int .i64 0, .int .u64 w] 3)) b = some (.cells true [.slice a xs.length c, .int .i64 0, .int .u64 w] 3) := put_same _ _ _
  have hs : Sub M (M.put b (.cells true [.slice a xs.length c, .int .i64 0, .int .u64 w] 3)) := (Sub.refl M).put hb _
  have hsrc := src_new hb hv (by omega) w
  by_cases hil : i < xs.length
  · have hil' : (i : Int) < xs.length := by omega
    have hi4 : (i : Int) < 4096 := by omega
    rcases ha with hz | ⟨b2, o2, rfl, ha⟩
    · omega
    have hg := ha i hil
    unfold bytesV at hg
    rw [List.getElem?_map, List.getElem?_eq_getElem hil, Option.map_some] at hg
    have hg2 := get_keep hg hs
    simp (disch := omega) [hil', hi4]
    refine draws [0, 1, 2, 3, 4, 5, 6, 7, 8, 9, 10, 11, 12, 13, 14, 15] [0, 0, 0, 0, 0, 0, 0, 0, 0, 0, 0, 0, 0, 0, 0, 2] tab_ok (by kernel_rfl) (by kernel_rfl) (by kernel_rfl) (by rfl) ?_
    simp (disch := omega) [get_of hN, hN, hg2, set_is]
    refine Rnd.mk' (i + 1, _) (by simp only; omega) (by (repeat (first | exact km | refine kp rfl ?_ | refine km' rfl ?_))) (by simp (disch := omega)) ⟨by simp only; omega, by simp only [put_put]; rfl⟩
  · have hil' : ¬ (i : Int) < xs.length := by omega
    simp (disch := omega) [hil']
    exact ret_of (h b _ hb hs hsrc)
theorem big_does (v : Value) (xs : List UInt8) (M : Mem) (R : Value → Mem → Prop) (hv : Rd M v (bytesV xs)) (hl : xs.length ≤ 9223372036854775807) (h : R (.bool (decide (4096 < xs.length))) M) : Does Tryz.prog 5 [v] M R := by
  obtain ⟨a, c, rfl, ha⟩ := hv.opened
  rw [bytesV_length]
  refine does_fn tab_ok Tryz.func5 rfl (by kernel_rfl) (by kernel_rfl) Tryz.ntmps5 Tryz.results5 rfl ?_
  simp (disch := omega)
  have e : decide ((4096 : Int) < xs.length) = decide (4096 < xs.length) := by rw [decide_eq_decide]; omega
  rw [e]
  exact ret_of h
end Go.Proofs.YthpcojnpiggaiaaGreat

/- Contracts: draws of the reference out of a source of numbers: numbers, letters, words, morphisms. -/
import Derived.Test.YthpcojnpiggaiaaGreatC43
namespace Go.Proofs.YthpcojnpiggaiaaGreat
open Go
set_option linter.unusedSimpArgs false
set_option linter.unusedVariables false

theorem at_u8' {L : List UInt8} {j : Nat} {v : UInt8} (h : L[j]? = some v) (hj : j < L.length) : L[j] = v := by
  rw [List.getElem?_eq_getElem hj] at h
  injection h
theorem src_tail {D N : Mem} {bI oI L c : Nat} {ws : List (List UInt8)} (h : D.sub? bI oI L = some (strs ws)) (hs : Sub D N) (h1 : 1 ≤ L) (hc : L ≤ c) : srcOf N (.slice (some ⟨bI, offAt oI 1 c 1, none⟩) (L - 1) (c - 1)) = some (strs (ws.drop 1)) := by
  show N.sub? bI (offAt oI 1 c 1) (L - 1) = some (strs (ws.drop 1))
  unfold Mem.sub? at *
  split at h
  · rename_i own xs tot hb
    rw [hs _ _ hb]
    split at h
    · rename_i hle
      injection h with h
      have e : strs (ws.drop 1) = (strs ws).drop 1 := by simp [strs, List.map_drop]
      simp only
      unfold offAt
      by_cases hc1 : c = 1
      · have hL : L = 1 := by omega
        subst hL
        rw [if_pos hc1, if_pos (by omega), e, ← h]
        simp
      · rw [if_neg hc1, if_pos (by omega), e, ← h, List.drop_take, List.drop_drop, Nat.mul_one]
    · cases h
  · cases h
theorem rd_srcL {N : Mem} {v : Value} {xs : List Value} (h : Rd N v xs) (h1 : 1 ≤ xs.length) : srcOf N v = some xs := by
  rcases h with ⟨a, c, rfl, rfl⟩ | ⟨b, o, c, rfl, h, _⟩
  · simp at h1
  · exact h
/-- A source of numbers: its block, and the code that it reads. -/
structure Rng where
  b : Nat
  v : Value
  xs : List UInt8
def SrcR (M : Mem) (s : Rng) : Prop := ∃ (i : Nat) (h : Int), M s.b = some (.cells true [s.v, .int .i64 i, .int .u64 h] 3) ∧ Rd (M.del s.b) s.v (bytesV s.xs) ∧ s.xs.length ≤ 140737488355328 ∧ i ≤ s.xs.length
/-- What a draw changes: the source alone. -/
structure DrR (s : Rng) (M M' : Mem) : Prop where
  keep : ∀ D : Mem, D s.b = none → Sub D M → Sub D M'
  src : SrcR M' s
theorem DrR.refl {s : Rng} {M : Mem} (h : SrcR M s) : DrR s M M := ⟨fun _ _ h => h, h⟩
theorem DrR.trans {s : Rng} {A B C : Mem} (h : DrR s A B) (k : DrR s B C) : DrR s A C := ⟨fun D hD hs => k.keep D hD (h.keep D hD hs), k.src⟩
theorem SrcR.told {M : Mem} {s : Rng} (h : SrcR M s) : M s.b ≠ none := by
  obtain ⟨i, hh, hM, _⟩ := h
  rw [hM]; intro q; cases q
theorem del_mono {M N : Mem} (b : Nat) (hs : Sub M N) : Sub (M.del b) (N.del b) := by
  intro j B hj
  by_cases e : j = b
  · simp [Mem.del, e] at hj
  · simp only [Mem.del, if_neg e] at hj ⊢
    exact hs _ _ hj
theorem SrcR.sub {M N : Mem} {s : Rng} (h : SrcR M s) (hs : Sub M N) : SrcR N s := by
  obtain ⟨i, hh, hM, hv, hl, hi⟩ := h
  exact ⟨i, hh, hs _ _ hM, hv.sub (del_mono _ hs), hl, hi⟩
theorem DrR.sub {s : Rng} {M N : Mem} (h : SrcR M s) (hs : Sub M N) : DrR s M N := ⟨fun _ _ hD => hD.trans hs, h.sub hs⟩
theorem del_put_b (M : Mem) (b : Nat) (B : Blk) : (M.put b B).del b = M.del b := by
  funext j
  by_cases q : j = b
  · simp [Mem.del, q]
  · simp [Mem.del, q, put_ne _ _ q]
theorem SrcR.store {M : Mem} {s : Rng} (hv : Rd (M.del s.b) s.v (bytesV s.xs)) (hl : s.xs.length ≤ 140737488355328) {i : Nat} (hi : i ≤ s.xs.length) (h : Int) : DrR s M (M.put s.b (.cells true [s.v, .int .i64 i, .int .u64 h] 3)) := by
  refine ⟨fun D hD hs => ?_, i, h, put_same _ _ _, by rw [del_put_b]; exact hv, hl, hi⟩
  intro j B hj
  have : j ≠ s.b := by rintro rfl; rw [hD] at hj; cases hj
  rw [put_ne _ _ this]
  exact hs _ _ hj
theorem DrR.at {s : Rng} {M M' : Mem} (h : DrR s M M') {i : Nat} (hi : i ≠ s.b) {B : Blk} (hB : M i = some B) : M' i = some B := by
  refine h.keep (fun j => if j = i then some B else none) (if_neg (Ne.symm hi)) ?_ i B (if_pos rfl)
  intro j C hj
  dsimp only at hj
  by_cases e : j = i
  · subst e; rw [if_pos rfl] at hj; injection hj with hj; subst hj; exact hB
  · rw [if_neg e] at hj; cases hj
/-- A draw beside a slice of one's own. -/
theorem own_draw {s : Rng} {Mb M' N N2 : Mem} {v : Value} {xs : List Value} (o : Own Mb v xs M') (hs : SrcR Mb s) (hN : Sub M' N) (d : DrR s N N2) : ∃ Mb2 M2, Own Mb2 v xs M2 ∧ Sub M2 N2 ∧ DrR s Mb Mb2 := by
  obtain ⟨i, w, h2, _⟩ := d.src
  obtain ⟨i0, w0, h0, hv0, hl0, _⟩ := hs
  have hi : i ≤ s.xs.length := by
    obtain ⟨i', w', h2', _, _, hi'⟩ := d.src
    rw [h2] at h2'
    simp only [Option.some.injEq, Blk.cells.injEq, List.cons.injEq, Value.int.injEq, true_and, and_true] at h2'
    omega
  refine ⟨Mb.put s.b (.cells true [s.v, .int .i64 i, .int .u64 w] 3), M'.put s.b (.cells true [s.v, .int .i64 i, .int .u64 w] 3), o.other h0 _, ?_, SrcR.store hv0 hl0 hi w⟩
  intro j B hj
  by_cases e : j = s.b
  · subst e; rw [put_same] at hj; rw [h2]; exact hj
  · rw [put_ne _ _ e] at hj
    exact d.at e (hN _ _ hj)
theorem rd_fresh {M : Mem} {s : Rng} (h : SrcR M s) {b c n : Nat} {w : Bool} {xs : List Value} (hb : M b = none) (hn : xs.length = n) (hc : n ≤ c) : Rd ((M.put b (.cells w xs c)).del s.b) (.slice (some ⟨b, 0, none⟩) n c) xs := by
  have hne : b ≠ s.b := by rintro rfl; exact h.told hb
  refine (Rd.new (M := M.del s.b) (b := b) (c := c) (w := w) hn hc).sub ?_
  intro j B hj
  by_cases e : j = b
  · subst e
    rw [put_same] at hj
    simp only [Mem.del, if_neg hne]
    rw [put_same]; exact hj
  · rw [put_ne _ _ e] at hj
    by_cases q : j = s.b
    · simp [Mem.del, q] at hj
    · simp only [Mem.del, if_neg q] at hj ⊢
      rw [put_ne _ _ e]; exact hj
theorem Rd.dr {s : Rng} {M M' : Mem} {v : Value} {xs : List Value} (h : Rd (M.del s.b) v xs) (d : DrR s M M') : Rd (M'.del s.b) v xs := h.sub (sub_delM (d.keep _ (del_none _ _) (del_subM _ _)) (del_none _ _))
theorem nx_does (s : Rng) (n : Int) (M : Mem) (R : Value → Mem → Prop) (hs : SrcR M s) (h : ∀ x M', (n < 1 → x = 0) → (1 ≤ n → 0 ≤ x ∧ x < n) → DrR s M M' → R (.int .i64 x) M') : Does Tryz.prog 52 [.pointer (some ⟨s.b, 0, none⟩), .int .i64 n] M R := by
  have hs0 := hs
  obtain ⟨b, v, xs⟩ := s
  obtain ⟨i, w, hM, hv, hl, hi⟩ := hs
  simp only at hM hv hl hi
  obtain ⟨a, c, rfl, ha⟩ := hv.opened
  rw [bytesV_length] at ha hv hM
  refine does_fn tab_ok Tryz.func52 rfl (by kernel_rfl) (by kernel_rfl) Tryz.ntmps52 Tryz.results52 rfl ?_
  by_cases hn : n < 1
  · simp (disch := omega) [hn]
    exact ret_of (h 0 M (fun _ => rfl) (fun hq => by omega) (DrR.refl hs0))
  · simp (disch := omega) [hn, hM, get_of hM, set_is]
    obtain ⟨r, hr, er⟩ := mask24 ((IntKind.u64.wrap (IntKind.u64.wrap (w * 6364136223846793005) + 1442695040888963407)).fdiv (2 ^ min 33 IntKind.u64.bits) % 2 ^ IntKind.u64.bits).toNat
    rw [er]
    clear er
    generalize IntKind.u64.wrap (IntKind.u64.wrap (w * 6364136223846793005) + 1442695040888963407) = w1
    have hx := bytesV_length xs
    generalize hsl : Value.slice a (bytesV xs).length c = sv at *
    rw [hx] at hsl
    have d1 : DrR ⟨b, sv, xs⟩ M (M.put b (.cells true [sv, .int .i64 i, .int .u64 w1] 3)) := SrcR.store (s := ⟨b, sv, xs⟩) (by subst hsl; exact hv) hl hi w1
    have hN : (M.put b (.cells true [sv, .int .i64 i, .int .u64 w1] 3)) b = some (.cells true [sv, .int .i64 i, .int .u64 w1] 3) := put_same _ _ _
    have hvN : Rd ((M.put b (.cells true [sv, .int .i64 i, .int .u64 w1] 3)).del b) sv (bytesV xs) := by
      rw [del_put_b]; subst hsl; exact hv
    subst hsl
    generalize M.put b (.cells true [.slice a xs.length c, .int .i64 i, .int .u64 w1] 3) = N at *
    refine draws [0, 1, 2, 3, 4, 5, 6, 7, 8, 9] [0, 0, 0, 0, 0, 0, 0, 0, 0, 0] tab_ok (by kernel_rfl) (by kernel_rfl) (by kernel_rfl) (by rfl) ?_
    by_cases hil : i < xs.length
    · have hil' : (i : Int) < xs.length := by omega
      rcases ha with hz | ⟨b2, o2, rfl, ha⟩
      · omega
      have hg := ha i hil
      unfold bytesV at hg
      rw [List.getElem?_map, List.getElem?_eq_getElem hil, Option.map_some] at hg
      have hg2 := get_keep hg (d1.keep _ (del_none _ _) (del_subM _ _))
      have hu := xs[i].toNat_lt
      generalize xs[i] = u at *
      have d2 : DrR ⟨b, .slice (some ⟨b2, o2, none⟩) xs.length c, xs⟩ N (N.put b (.cells true [.slice (some ⟨b2, o2, none⟩) xs.length c, .int .i64 (i + 1 : Nat), .int .u64 w1] 3)) := SrcR.store (s := ⟨b, .slice (some ⟨b2, o2, none⟩) xs.length c, xs⟩) hvN hl (show i + 1 ≤ xs.length by omega) w1
      have d12 := d1.trans d2
      have ex := fun z hz => @tmod_in (r + z) n (by omega) (by omega)
      simp (disch := omega) [get_of hN, hil']
      refine draws [0, 1, 2, 3, 4, 5, 6, 7, 8, 9, 10, 11, 12, 13] [0, 0, 0, 0, 0, 0, 0, 0, 0, 0, 0, 0, 0, 0] tab_ok (by kernel_rfl) (by kernel_rfl) (by kernel_rfl) (by rfl) ?_
      have hn0 : ¬ n = 0 := by omega
      simp (disch := omega) [get_of hN, hN, hil', hg2, set_is, hn0]
      obtain ⟨x1, x2⟩ := ex u.toNat (by omega)
      exact ret_of (h _ _ (fun hq => absurd hq hn) (fun _ => ⟨x1, x2⟩) d12)
    · have hil' : ¬ (i : Int) < xs.length := by omega
      have hn0 : ¬ n = 0 := by omega
      obtain ⟨x1, x2⟩ := @tmod_in r n (by omega) (by omega)
      simp (disch := omega) [get_of hN, hil', hn0]
      exact ret_of (h _ _ (fun hq => absurd hq hn) (fun _ => ⟨x1, x2⟩) d1)
theorem from_does (v : Value) (xs : List UInt8) (M : Mem) (R : Value → Mem → Prop) (hv : Rd M v (bytesV xs)) (hl : xs.length ≤ 4096) (h : ∀ s M', M (Rng.b s) = none → Sub M M' → SrcR M' s → R (.pointer (some ⟨s.b, 0, none⟩)) M') : Does Tryz.prog 49 [v] M R := by
  refine l01From_does v xs M R hv hl ?_
  intro b M' hb hs hsrc
  obtain ⟨v', xs', i, w, h1, h2, h3, h4⟩ := hsrc
  exact h ⟨b, v', xs'⟩ M' hb hs ⟨i, w, h1, h2, h3, h4⟩
theorem pick_does (s : Rng) (v : Value) (zs : List Int) (M : Mem) (R : Value → Mem → Prop) (hs : SrcR M s) (hv : Rd (M.del s.b) v (ints zs)) (h1 : 1 ≤ zs.length) (hl : zs.length ≤ 1000) (h : ∀ z ∈ zs, ∀ M', DrR s M M' → R (.int .i64 z) M') : Does Tryz.prog 64 [.pointer (some ⟨s.b, 0, none⟩), v] M R := by
  obtain ⟨a, c, rfl, ha⟩ := hv.opened
  rw [ints_length] at ha hv ⊢
  rcases ha with hz | ⟨b2, o2, rfl, ha⟩
  · omega
  refine does_fn tab_ok Tryz.func64 rfl (by kernel_rfl) (by kernel_rfl) Tryz.ntmps64 Tryz.results64 rfl ?_
  simp (disch := omega)
  refine nx_does s _ _ _ hs ?_
  intro x M1 _ hx d
  have hx := hx (by omega)
  obtain ⟨k, rfl⟩ : ∃ k : Nat, x = k := ⟨x.toNat, by omega⟩
  have hk : k < zs.length := by omega
  have hg := ha k hk
  rw [ints_get, List.getElem?_eq_getElem hk, Option.map_some] at hg
  have hg := get_keep hg (d.keep _ (del_none _ _) (del_subM _ _))
  have hm := List.getElem_mem hk
  generalize zs[k] = z at *
  simp (disch := omega) [hg]
  exact ret_of (h z hm _ d)
theorem letterA_does (n : Nat) (M : Mem) (R : Value → Mem → Prop) (h1 : n ≤ 100) (h : ∀ M', Sub M M' → R (str [ltr n]) M') : Does Tryz.prog 54 [.int .i64 n] M R := by
  have e : (97 + (n : Int)).toNat = 97 + n := by omega
  have h := fun M' hs => h M' hs
  unfold ltr at h
  rw [← e] at h
  refine does_fn tab_ok Tryz.func54 rfl (by kernel_rfl) (by kernel_rfl) Tryz.ntmps54 Tryz.results54 rfl ?_
  simp (disch := omega)
  intro b hb
  simp (disch := omega)
  exact ret_of (h _ ((Sub.refl M).put hb _))
theorem drawOf_does (s : Rng) (n k : Int) (M : Mem) (R : Value → Mem → Prop) (hs : SrcR M s) (hn : n ≤ 1000) (hk : k ≤ 100) (h : ∀ w M', (w : List UInt8).length = n.toNat → (∀ u ∈ w, ∃ i : Nat, u = ltr i ∧ (i : Int) < max k 1) → DrR s M M' → R (str w) M') : Does Tryz.prog 63 [.pointer (some ⟨s.b, 0, none⟩), .int .i64 n, .int .i64 k] M R := by
  refine does_fn tab_ok Tryz.func63 rfl (by kernel_rfl) (by kernel_rfl) Tryz.ntmps63 Tryz.results63 rfl ?_
  simp (disch := omega)
  refine loop_to tab_ok [7, 8, 9, 10, 11, 12, 13, 14, 15, 16, 17, 18, 19] (fun x : List UInt8 => [(8, .int .i64 (x.length : Nat)), (7, str x)]) (fun x M' => x.length ≤ n.toNat ∧ (∀ u ∈ x, ∃ i : Nat, u = ltr i ∧ (i : Int) < max k 1) ∧ DrR s M M') (fun x => n.toNat - x.length) [] (by kernel_rfl) (by simp (disch := omega)) ⟨Nat.zero_le _, (fun u hu => by cases hu), DrR.refl hs⟩ ?_
  rintro w M1 g ⟨hw, hu, d⟩
  by_cases hlt : (w.length : Int) < n
  · simp (disch := omega) [hlt]
    refine nx_does s k _ _ d.src ?_
    intro x M2 hx0 hx1 d2
    have hx : 0 ≤ x ∧ x < max k 1 := by
      by_cases hk1 : k < 1
      · rw [hx0 hk1]; omega
      · have := hx1 (by omega); omega
    obtain ⟨i, rfl⟩ : ∃ i : Nat, x = i := ⟨x.toNat, by omega⟩
    simp (disch := omega)
    refine letterA_does i _ _ (by omega) ?_
    intro M3 s3
    have d3 := (d.trans d2).trans (DrR.sub d2.src s3)
    generalize hc : ltr i = c at *
    simp (disch := omega)
    refine Rnd.mk' (w ++ [c]) (by rw [List.length_append, List.length_singleton]; omega) (by (repeat (first | exact km | refine kp rfl ?_ | refine km' rfl ?_))) (by simp (disch := omega)) ⟨by rw [List.length_append, List.length_singleton]; omega, ?_, d3⟩
    intro u hu2
    rcases List.mem_append.1 hu2 with h1 | h1
    · exact hu u h1
    · rw [List.mem_singleton.1 h1]; exact ⟨i, hc.symm, hx.2⟩
  · simp (disch := omega) [hlt]
    exact ret_of (h w _ (by omega) hu d)
/-- The parts of a text between the bytes c that stand in its first i bytes, and where the next one begins. -/
def splN (l : List UInt8) (c : UInt8) : Nat → List (List UInt8) × Nat
  | 0 => ([], 0)
  | i + 1 => if l.getD i 0 = c then ((splN l c i).1 ++ [(l.take i).drop (splN l c i).2], i + 1) else splN l c i
def splL (l : List UInt8) (c : UInt8) : List (List UInt8) := (splN l c l.length).1 ++ [l.drop (splN l c l.length).2]
theorem splN_at (l : List UInt8) (c : UInt8) : ∀ i, (splN l c i).2 ≤ i ∧ (splN l c i).1.length ≤ i
  | 0 => ⟨Nat.le_refl 0, Nat.le_refl 0⟩
  | i + 1 => by
    have ih := splN_at l c i
    unfold splN
    split
    · rw [List.length_append, List.length_singleton]
      exact ⟨Nat.le_refl _, by omega⟩
    · exact ⟨by omega, by omega⟩
theorem splN_len (l : List UInt8) (c : UInt8) : ∀ i, ∀ w ∈ (splN l c i).1, w.length ≤ l.length
  | 0, w, h => by cases h
  | i + 1, w, h => by
    unfold splN at h
    split at h
    · rcases List.mem_append.1 h with h | h
      · exact splN_len l c i w h
      · rw [List.mem_singleton.1 h, List.length_drop, List.length_take]; omega
    · exact splN_len l c i w h
theorem splL_len (l : List UInt8) (c : UInt8) : 1 ≤ (splL l c).length ∧ (splL l c).length ≤ l.length + 1 ∧ ∀ w ∈ splL l c, w.length ≤ l.length := by
  unfold splL
  have h := splN_at l c l.length
  rw [List.length_append, List.length_singleton]
  refine ⟨by omega, by omega, fun w hw => ?_⟩
  rcases List.mem_append.1 hw with hw | hw
  · exact splN_len l c _ w hw
  · rw [List.mem_singleton.1 hw, List.length_drop]; omega
/-- A slice of one's own stands in a memory of its own. -/
theorem own_alone {Mb N : Mem} {v : Value} {xs : List Value} (o : Own Mb v xs N) : ∃ D : Mem, Rd D v xs ∧ Sub D N ∧ ∀ i, Mb i ≠ none → D i = none := by
  rcases o with ⟨rfl, rfl, rfl⟩ | ⟨b, c, rfl, hb, hc, rfl⟩
  · exact ⟨emptyM, .inl ⟨none, 0, rfl, rfl⟩, empty_sub _, fun _ _ => rfl⟩
  · refine ⟨emptyM.put b (.cells true xs c), Rd.new rfl hc, ?_, ?_⟩
    · intro i B hi
      by_cases e : i = b
      · subst e; rw [put_same] at hi ⊢; exact hi
      · rw [put_ne _ _ e] at hi; cases hi
    · intro i hi
      have e : i ≠ b := by rintro rfl; exact hi hb
      rw [put_ne _ _ e]; rfl
theorem DrR.keepT {s : Rng} {M N : Mem} (d : DrR s M N) {i : Nat} (h : M i ≠ none) : N i ≠ none := by
  by_cases e : i = s.b
  · rw [e]; exact d.src.told
  · cases hM : M i with
    | none => exact absurd hM h
    | some B => rw [d.at e hM]; intro q; cases q
theorem DrR.put {s : Rng} {M N : Mem} {b2 : Nat} (hs : SrcR M s) (d : DrR s M N) (hb : M b2 = none) (B : Blk) : DrR s M (N.put b2 B) := by
  have hne : b2 ≠ s.b := by rintro rfl; exact hs.told hb
  have hk : ∀ D : Mem, D s.b = none → Sub D M → Sub D (N.put b2 B) := by
    intro D hD hDM i C hi
    have e : i ≠ b2 := by
      rintro rfl
      have := hDM _ _ hi
      rw [hb] at this
      cases this
    rw [put_ne _ _ e]
    exact d.keep D hD hDM i C hi
  refine ⟨hk, ?_⟩
  obtain ⟨i, w, h1, h2, h3, h4⟩ := d.src
  obtain ⟨_, _, _, hv, _, _⟩ := hs
  refine ⟨i, w, by rw [put_ne _ _ (Ne.symm hne)]; exact h1, hv.sub ?_, h3, h4⟩
  exact sub_delM (hk _ (del_none _ _) (del_subM _ _)) (del_none _ _)
def texts9 : List (List UInt8) := [[97, 98, 44, 97], [97, 98, 44, 98, 97], [97, 98, 44, 97, 97], [97, 98, 99, 44, 97, 99, 44, 98], [97, 98, 44, 97, 99, 44, 97], [97, 44, 97, 98], [97, 98, 99, 97, 98, 44, 97, 99, 97, 98, 99, 98, 44, 97, 99, 98, 99, 97, 99, 98], [97, 98, 99, 44, 98, 99, 97, 44, 99, 97, 98], [97, 98, 44, 99, 44]]
theorem texts9_len : texts9.length = 9 := nr rfl
theorem texts9_in : ∀ l ∈ texts9, l.length ≤ 20 := by decide
theorem texts9_eq : [str [97, 98, 44, 97], str [97, 98, 44, 98, 97], str [97, 98, 44, 97, 97], str [97, 98, 99, 44, 97, 99, 44, 98], str [97, 98, 44, 97, 99, 44, 97], str [97, 44, 97, 98], str [97, 98, 99, 97, 98, 44, 97, 99, 97, 98, 99, 98, 44, 97, 99, 98, 99, 97, 99, 98], str [97, 98, 99, 44, 98, 99, 97, 44, 99, 97, 98], str [97, 98, 44, 99, 44]] = strs texts9 := nr rfl
def MorOk (ws : List (List UInt8)) : Prop := ws.length ≤ 100 ∧ ∀ w ∈ ws, w.length ≤ 100
end Go.Proofs.YthpcojnpiggaiaaGreat

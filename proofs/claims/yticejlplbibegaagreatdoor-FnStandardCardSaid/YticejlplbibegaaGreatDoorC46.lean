/- Contracts: draws of the reference out of a source of numbers: numbers, letters, words, morphisms. -/
import Derived.Test.YticejlplbibegaaGreatDoorC43
namespace Go.Proofs.YticejlplbibegaaGreatDoor
open Go
set_option linter.unusedSimpArgs false
set_option linter.unusedVariables false

theorem at_u8' {L : List UInt8} {j : Nat} {v : UInt8} (h : L[j]? = some v) (hj : j < L.length) : L[j] = v := by
  rw [List.getElem?_eq_getElem hj] at h
  injection h
theorem src_tail {D N : Mem} {bI oI L c : Nat} {ws : List (List UInt8)} (h : D.sub? bI oI L = some (strs ws)) (hs : Sub D N) (h1 : 1 ≤ L) (hc : L ≤ c) : srcOf N (.slice (some ⟨bI, offAt oI 1 c 1, none⟩) (L - 1) (c - 1)) = some (strs (ws.drop 1)) := by
  show N.sub? bI (offAt oI 1 c 1) (L - 1) = some (strs (ws.drop 1))
  unfold Mem.sub? at *
  split at h
  · rename_i own xs tot hb
    rw [hs _ _ hb]
    split at h
    · rename_i hle
      injection h with h
      have e : strs (ws.drop 1) = (strs ws).drop 1 := by simp [strs, List.map_drop]
      simp only
      unfold offAt
      by_cases hc1 : c = 1
      · have hL : L = 1 := by omega
        subst hL
        rw [if_pos hc1, if_pos (by omega), e, ← h]
        simp
      · rw [if_neg hc1, if_pos (by omega), e, ← h, List.drop_take, List.drop_drop, Nat.mul_one]
    · cases h
  · cases h
theorem rd_srcL {N : Mem} {v : Value} {xs : List Value} (h : Rd N v xs) (h1 : 1 ≤ xs.length) : srcOf N v = some xs := by
  rcases h with ⟨a, c, rfl, rfl⟩ | ⟨b, o, c, rfl, h, _⟩
  · simp at h1
  · exact h
/-- A source of numbers: its block, and the code that it reads. -/
structure Rng where
  b : Nat
  v : Value
  xs : List UInt8
def SrcR (M : Mem) (s : Rng) : Prop := ∃ (i : Nat) (h : Int), M s.b = some (.cells true [s.v, .int .i64 i, .int .u64 h] 3) ∧ Rd (M.del s.b) s.v (bytesV s.xs) ∧ s.xs.length ≤ 140737488355328 ∧ i ≤ s.xs.length
/-- What a draw changes: the source alone. -/
structure DrR (s : Rng) (M M' : Mem) : Prop where
  keep : ∀ D : Mem, D s.b = none → Sub D M → Sub D M'
  src : SrcR M' s
theorem DrR.refl {s : Rng} {M : Mem} (h : SrcR M s) : DrR s M M := ⟨fun _ _ h => h, h⟩
theorem DrR.trans {s : Rng} {A B C : Mem} (h : DrR s A B) (k : DrR s B C) : DrR s A C := ⟨fun D hD hs => k.keep D hD (h.keep D hD hs), k.src⟩
theorem SrcR.told {M : Mem} {s : Rng} (h : SrcR M s) : M s.b ≠ none := by
  obtain ⟨i, hh, hM, _⟩ := h
  rw [hM]; intro q; cases q
theorem del_mono {M N : Mem} (b : Nat) (hs : Sub M N) : Sub (M.del b) (N.del b) := by
  intro j B hj
  by_cases e : j = b
  · simp [Mem.del, e] at hj
  · simp only [Mem.del, if_neg e] at hj ⊢
    exact hs _ _ hj
theorem SrcR.sub {M N : Mem} {s : Rng} (h : SrcR M s) (hs : Sub M N) : SrcR N s := by
  obtain ⟨i, hh, hM, hv, hl, hi⟩ := h
  exact ⟨i, hh, hs _ _ hM, hv.sub (del_mono _ hs), hl, hi⟩
theorem DrR.sub {s : Rng} {M N : Mem} (h : SrcR M s) (hs : Sub M N) : DrR s M N := ⟨fun _ _ hD => hD.trans hs, h.sub hs⟩
theorem del_put_b (M : Mem) (b : Nat) (B : Blk) : (M.put b B).del b = M.del b := by
  funext j
  by_cases q : j = b
  · simp [Mem.del, q]
  · simp [Mem.del, q, put_ne _ _ q]
theorem SrcR.store {M : Mem} {s : Rng} (hv : Rd (M.del s.b) s.v (bytesV s.xs)) (hl : s.xs.length ≤ 140737488355328) {i : Nat} (hi : i ≤ s.xs.length) (h : Int) : DrR s M (M.put s.b (.cells true [s.v, .int .i64 i, .int .u64 h] 3)) := by
  refine ⟨fun D hD hs => ?_, i, h, put_same _ _ _, by rw [del_put_b]; exact hv, hl, hi⟩
  intro j B hj
  have : j ≠ s.b := by rintro rfl; rw [hD] at hj; cases hj
  rw [put_ne _ _ this]
  exact hs _ _ hj
theorem DrR.at {s : Rng} {M M' : Mem} (h : DrR s M M') {i : Nat} (hi : i ≠ s.b) {B : Blk} (hB : M i = some B) : M' i = some B := by
  refine h.keep (fun j => if j = i then some B else none) (if_neg (Ne.symm hi)) ?_ i B (if_pos rfl)
  intro j C hj
  dsimp only at hj
  by_cases e : j = i
  · subst e; rw [if_pos rfl] at hj; injection hj with hj; subst hj; exact hB
  · rw [if_neg e] at hj; cases hj
/-- A draw beside a slice of one's own. -/
theorem own_draw {s : Rng} {Mb M' N N2 : Mem} {v : Value} {xs : List Value} (o : Own Mb v xs M') (hs : SrcR Mb s) (hN : Sub M' N) (d : DrR s N N2) : ∃ Mb2 M2, Own Mb2 v xs M2 ∧ Sub M2 N2 ∧ DrR s Mb Mb2 := by
  obtain ⟨i, w, h2, _⟩ := d.src
  obtain ⟨i0, w0, h0, hv0, hl0, _⟩ := hs
  have hi : i ≤ s.xs.length := by
    obtain ⟨i', w', h2', _, _, hi'⟩ := d.src
    rw [h2] at h2'
    simp only [Option.some.injEq, Blk.cells.injEq, List.cons.injEq, Value.int.injEq, true_and, and_true] at h2'
    omega
  refine ⟨Mb.put s.b (.cells true [s.v, .int .i64 i, .int .u64 w] 3), M'.put s.b (.cells true [s.v, .int .i64 i, .int .u64 w] 3), o.other h0 _, ?_, SrcR.store hv0 hl0 hi w⟩
  intro j B hj
  by_cases e : j = s.b
  · subst e; rw [put_same] at hj; rw [h2]; exact hj
  · rw [put_ne _ _ e] at hj
    exact d.at e (hN _ _ hj)
theorem rd_fresh {M : Mem} {s : Rng} (h : SrcR M s) {b c n : Nat} {w : Bool} {xs : List Value} (hb : M b = none) (hn : xs.length = n) (hc : n ≤ c) : Rd ((M.put b (.cells w xs c)).del s.b) (.slice (some ⟨b, 0, none⟩) n c) xs := by
  have hne : b ≠ s.b := by rintro rfl; exact h.told hb
  refine (Rd.new (M := M.del s.b) (b := b) (c := c) (w := w) hn hc).sub ?_
  intro j B hj
  by_cases e : j = b
  · subst e
    rw [put_same] at hj
    simp only [Mem.del, if_neg hne]
    rw [put_same]; exact hj
  · rw [put_ne _ _ e] at hj
    by_cases q : j = s.b
    · simp [Mem.del, q] at hj
    · simp only [Mem.del, if_neg q] at hj ⊢
      rw [put_ne _ _ e]; exact hj
theorem Rd.dr {s : Rng} {M M' : Mem} {v : Value} {xs : List Value} (h : Rd (M.del s.b) v xs) (d : DrR s M M') : Rd (M'.del s.b) v xs := h.sub (sub_delM (d.keep _ (del_none _ _) (del_subM _ _)) (del_none _ _))
theorem nx_does (s : Rng) (n : Int) (M : Mem) (R : Value → Mem → Prop) (hs : SrcR M s) (h : ∀ x M', (n < 1 → x = 0) → (1 ≤ n → 0 ≤ x ∧ x < n) → DrR s M M' → R (.int .i64 x) M') : Does Tryz.prog 67 [.pointer (some ⟨s.b, 0, none⟩), .int .i64 n] M R := by
  have hs0 := hs
  obtain ⟨b, v, xs⟩ := s
  obtain ⟨i, w, hM, hv, hl, hi⟩ := hs
  simp only at hM hv hl hi
  obtain ⟨a, c, rfl, ha⟩ := hv.opened
  rw [bytesV_length] at ha hv hM
  refine does_fn tab_ok Tryz.func67 rfl (by kernel_rfl) (by kernel_rfl) Tryz.ntmps67 Tryz.results67 rfl ?_
  by_cases hn : n < 1
  · simp (disch := omega) [hn]
    exact ret_of (h 0 M (fun _ => rfl) (fun hq => by omega) (DrR.refl hs0))
  · simp (disch := omega) [hn, hM, get_of hM, set_is]
    obtain ⟨r, hr, er⟩ := mask24 ((IntKind.u64.wrap (IntKind.u64.wrap (w * 6364136223846793005) + 1442695040888963407)).fdiv (2 ^ min 33 IntKind.u64.bits) % 2 ^ IntKind.u64.bits).toNat
    rw [er]
    clear er
    generalize IntKind.u64.wrap (IntKind.u64.wrap (w * 6364136223846793005) + 1442695040888963407) = w1
    have hx := bytesV_length xs
    generalize hsl : Value.slice a (bytesV xs).length c = sv at *
    rw [hx] at hsl
    have d1 : DrR ⟨b, sv, xs⟩ M (M.put b (.cells true [sv, .int .i64 i, .int .u64 w1] 3)) := SrcR.store (s := ⟨b, sv, xs⟩) (by subst hsl; exact hv) hl hi w1
    have hN : (M.put b (.cells true [sv, .int .i64 i, .int .u64 w1] 3)) b = some (.cells true [sv, .int .i64 i, .int .u64 w1] 3) := put_same _ _ _
    have hvN : Rd ((M.put b (.cells true [sv, .int .i64 i, .int .u64 w1] 3)).del b) sv (bytesV xs) := by
      rw [del_put_b]; subst hsl; exact hv
    subst hsl
    generalize M.put b (.cells true [.slice a xs.length c, .int .i64 i, .int .u64 w1] 3) = N at *
    refine draws [0, 1, 2, 3, 4, 5, 6, 7, 8, 9] [0, 0, 0, 0, 0, 0, 0, 0, 0, 0] tab_ok (by kernel_rfl) (by kernel_rfl) (by kernel_rfl) (by rfl) ?_
    by_cases hil : i < xs.length
    · have hil' : (i : Int) < xs.length := by omega
      rcases ha with hz | ⟨b2, o2, rfl, ha⟩
      · omega
      have hg := ha i hil
      unfold bytesV at hg
      rw [List.getElem?_map, List.getElem?_eq_getElem hil, Option.map_some] at hg
      have hg2 := get_keep hg (d1.keep _ (del_none _ _) (del_subM _ _))
      have hu := xs[i].toNat_lt
      generalize xs[i] = u at *
      have d2 : DrR ⟨b, .slice (some ⟨b2, o2, none⟩) xs.length c, xs⟩ N (N.put b (.cells true [.slice (some ⟨b2, o2, none⟩) xs.length c, .int .i64 (i + 1 : Nat), .int .u64 w1] 3)) := SrcR.store (s := ⟨b, .slice (some ⟨b2, o2, none⟩) xs.length c, xs⟩) hvN hl (show i + 1 ≤ xs.length by omega) w1
      have d12 := d1.trans d2
      have ex := fun z hz => @tmod_in (r + z) n (by omega) (by omega)
      simp (disch := omega) [get_of hN, hil']
      refine draws [0, 1, 2, 3, 4, 5, 6, 7, 8, 9, 10, 11, 12, 13] [0, 0, 0, 0, 0, 0, 0, 0, 0, 0, 0, 0, 0, 0] tab_ok (by kernel_rfl) (by kernel_rfl) (by kernel_rfl) (by rfl) ?_
      have hn0 : ¬ n = 0 := by omega
      simp (disch := omega) [get_of hN, hN, hil', hg2, set_is, hn0]
      obtain ⟨x1, x2⟩ := ex u.toNat (by omega)
      exact ret_of (h _ _ (fun hq => absurd hq hn) (fun _ => ⟨x1, x2⟩) d12)
    · have hil' : ¬ (i : Int) < xs.length := by omega
      have hn0 : ¬ n = 0 := by omega
      obtain ⟨x1, x2⟩ := @tmod_in r n (by omega) (by omega)
      simp (disch := omega) [get_of hN, hil', hn0]
      exact ret_of (h _ _ (fun hq => absurd hq hn) (fun _ => ⟨x1, x2⟩) d1)
theorem from_does (v : Value) (xs : List UInt8) (M : Mem) (R : Value → Mem → Prop) (hv : Rd M v (bytesV xs)) (hl : xs.length ≤ 4096) (h : ∀ s M', M (Rng.b s) = none → Sub M M' → SrcR M' s → R (.pointer (some ⟨s.b, 0, none⟩)) M') : Does Tryz.prog 62 [v] M R := by
  refine l01From_does v xs M R hv hl ?_
  intro b M' hb hs hsrc
  obtain ⟨v', xs', i, w, h1, h2, h3, h4⟩ := hsrc
  exact h ⟨b, v', xs'⟩ M' hb hs ⟨i, w, h1, h2, h3, h4⟩
theorem pick_does (s : Rng) (v : Value) (zs : List Int) (M : Mem) (R : Value → Mem → Prop) (hs : SrcR M s) (hv : Rd (M.del s.b) v (ints zs)) (h1 : 1 ≤ zs.length) (hl : zs.length ≤ 1000) (h : ∀ z ∈ zs, ∀ M', DrR s M M' → R (.int .i64 z) M') : Does Tryz.prog 63 [.pointer (some ⟨s.b, 0, none⟩), v] M R := by
  obtain ⟨a, c, rfl, ha⟩ := hv.opened
  rw [ints_length] at ha hv ⊢
  rcases ha with hz | ⟨b2, o2, rfl, ha⟩
  · omega
  refine does_fn tab_ok Tryz.func63 rfl (by kernel_rfl) (by kernel_rfl) Tryz.ntmps63 Tryz.results63 rfl ?_
  simp (disch := omega)
  refine nx_does s _ _ _ hs ?_
  intro x M1 _ hx d
  have hx := hx (by omega)
  obtain ⟨k, rfl⟩ : ∃ k : Nat, x = k := ⟨x.toNat, by omega⟩
  have hk : k < zs.length := by omega
  have hg := ha k hk
  rw [ints_get, List.getElem?_eq_getElem hk, Option.map_some] at hg
  have hg := get_keep hg (d.keep _ (del_none _ _) (del_subM _ _))
  have hm := List.getElem_mem hk
  generalize zs[k] = z at *
  simp (disch := omega) [hg]
  exact ret_of (h z hm _ d)
theorem letterA_does (n : Nat) (M : Mem) (R : Value → Mem → Prop) (h1 : n ≤ 100) (h : ∀ M', Sub M M' → R (str [ltr n]) M') : Does Tryz.prog 125 [.int .i64 n] M R := by
  have e : (97 + (n : Int)).toNat = 97 + n := by omega
  have h := fun M' hs => h M' hs
  unfold ltr at h
  rw [← e] at h
  refine does_fn tab_ok Tryz.func125 rfl (by kernel_rfl) (by kernel_rfl) Tryz.ntmps125 Tryz.results125 rfl ?_
  simp (disch := omega)
  intro b hb
  simp (disch := omega)
  exact ret_of (h _ ((Sub.refl M).put hb _))
theorem drawOf_does (s : Rng) (n k : Int) (M : Mem) (R : Value → Mem → Prop) (hs : SrcR M s) (hn : n ≤ 1000) (hk : k ≤ 100) (h : ∀ w M', (w : List UInt8).length = n.toNat → (∀ u ∈ w, ∃ i : Nat, u = ltr i ∧ (i : Int) < max k 1) → DrR s M M' → R (str w) M') : Does Tryz.prog 68 [.pointer (some ⟨s.b, 0, none⟩), .int .i64 n, .int .i64 k] M R := by
  refine does_fn tab_ok Tryz.func68 rfl (by kernel_rfl) (by kernel_rfl) Tryz.ntmps68 Tryz.results68 rfl ?_
  simp (disch := omega)
  refine loop_to tab_ok [7, 8, 9, 10, 11, 12, 13, 14, 15, 16, 17, 18, 19] (fun x : List UInt8 => [(8, .int .i64 (x.length : Nat)), (7, str x)]) (fun x M' => x.length ≤ n.toNat ∧ (∀ u ∈ x, ∃ i : Nat, u = ltr i ∧ (i : Int) < max k 1) ∧ DrR s M M') (fun x => n.toNat - x.length) [] (by kernel_rfl) (by simp (disch := omega)) ⟨Nat.zero_le _, (fun u hu => by cases hu), DrR.refl hs⟩ ?_
  rintro w M1 g ⟨hw, hu, d⟩
  by_cases hlt : (w.length : Int) < n
  · simp (disch := omega) [hlt]
    refine nx_does s k _ _ d.src ?_
    intro x M2 hx0 hx1 d2
    have hx : 0 ≤ x ∧ x < max k 1 := by
      by_cases hk1 : k < 1
      · rw [hx0 hk1]; omega
      · have := hx1 (by omega); omega
    obtain ⟨i, rfl⟩ : ∃ i : Nat, x = i := ⟨x.toNat, by omega⟩
    simp (disch := omega)
    refine letterA_does i _ _ (by omega) ?_
    intro M3 s3
    have d3 := (d.trans d2).trans (DrR.sub d2.src s3)
    generalize hc : ltr i = c at *
    simp (disch := omega)
    refine Rnd.mk' (w ++ [c]) (by rw [List.length_append, List.length_singleton]; omega) (by (repeat (first | exact km | refine kp rfl ?_ | refine km' rfl ?_))) (by simp (disch := omega)) ⟨by rw [List.length_append, List.length_singleton]; omega, ?_, d3⟩
    intro u hu2
    rcases List.mem_append.1 hu2 with h1 | h1
    · exact hu u h1
    · rw [List.mem_singleton.1 h1]; exact ⟨i, hc.symm, hx.2⟩
  · simp (disch := omega) [hlt]
    exact ret_of (h w _ (by omega) hu d)
/-- The parts of a text between the bytes c that stand in its first i bytes, and where the next one begins. -/
def splN (l : List UInt8) (c : UInt8) : Nat → List (List UInt8) × Nat
  | 0 => ([], 0)
  | i + 1 => if l.getD i 0 = c then ((splN l c i).1 ++ [(l.take i).drop (splN l c i).2], i + 1) else splN l c i
def splL (l : List UInt8) (c : UInt8) : List (List UInt8) := (splN l c l.length).1 ++ [l.drop (splN l c l.length).2]
theorem splN_at (l : List UInt8) (c : UInt8) : ∀ i, (splN l c i).2 ≤ i ∧ (splN l c i).1.length ≤ i
  | 0 => ⟨Nat.le_refl 0, Nat.le_refl 0⟩
  | i + 1 => by
    have ih := splN_at l c i
    unfold splN
    split
    · rw [List.length_append, List.length_singleton]
      exact ⟨Nat.le_refl _, by omega⟩
    · exact ⟨by omega, by omega⟩
theorem splN_len (l : List UInt8) (c : UInt8) : ∀ i, ∀ w ∈ (splN l c i).1, w.length ≤ l.length
  | 0, w, h => by cases h
  | i + 1, w, h => by
    unfold splN at h
    split at h
    · rcases List.mem_append.1 h with h | h
      · exact splN_len l c i w h
      · rw [List.mem_singleton.1 h, List.length_drop, List.length_take]; omega
    · exact splN_len l c i w h
theorem splL_len (l : List UInt8) (c : UInt8) : 1 ≤ (splL l c).length ∧ (splL l c).length ≤ l.length + 1 ∧ ∀ w ∈ splL l c, w.length ≤ l.length := by
  unfold splL
  have h := splN_at l c l.length
  rw [List.length_append, List.length_singleton]
  refine ⟨by omega, by omega, fun w hw => ?_⟩
  rcases List.mem_append.1 hw with hw | hw
  · exact splN_len l c _ w hw
  · rw [List.mem_singleton.1 hw, List.length_drop]; omega
theorem split_does (l : List UInt8) (c : UInt8) (M : Mem) (R : Value → Mem → Prop) (hl : l.length ≤ 1099511627776) (h : ∀ v M', Own M v (strs (splL l c)) M' → R v M') : Does Tryz.prog 77 [str l, .int .u8 c.toNat] M R := by
  refine does_fn tab_ok Tryz.func77 rfl (by kernel_rfl) (by kernel_rfl) Tryz.ntmps77 Tryz.results77 rfl ?_
  simp (disch := omega)
  intro b0 hb0
  simp (disch := omega)
  refine loop_to tab_ok [5, 6, 7, 9, 10, 11, 12, 13, 14, 15, 16, 17, 18, 19, 20, 21, 22, 23, 24, 25, 26, 27, 28] (fun x : Nat × Value => [(7, .int .i64 x.1), (6, .int .i64 ((splN l c x.1).2 : Nat)), (5, x.2)]) (fun x M' => x.1 ≤ l.length ∧ Own M x.2 (strs (splN l c x.1).1) M') (fun x => l.length - x.1) (0, .slice (some ⟨b0, 0, none⟩) 0 0) (by kernel_rfl) (by simp (disch := omega); rfl) ⟨Nat.zero_le _, Own.new hb0 rfl (Nat.le_refl 0)⟩ ?_
  rintro ⟨i, v⟩ M1 g ⟨hi, ho⟩
  simp only at hi ho
  have hat := splN_at l c i
  by_cases hlt : i < l.length
  · have hx : l[i]? = some l[i] := List.getElem?_eq_getElem hlt
    have e : splN l c (i + 1) = if l.getD i 0 = c then ((splN l c i).1 ++ [(l.take i).drop (splN l c i).2], i + 1) else splN l c i := rfl
    have hd : l.getD i 0 = l[i] := by rw [List.getD_eq_getElem?_getD, hx]; rfl
    rw [hd] at e
    have hu := l[i].toNat_lt
    have hc := c.toNat_lt
    generalize l[i] = u at *
    generalize splN l c i = P at *
    obtain ⟨P1, P2⟩ := P
    simp only at hat ho e
    have hq : ((u.toNat : Int) == (c.toNat : Int)) = decide (u = c) := by
      rw [Bool.eq_iff_iff, beq_iff_eq, decide_eq_true_eq]
      constructor
      · intro h; exact UInt8.toNat_inj.1 (by omega)
      · rintro rfl; rfl
    by_cases huc : u = c
    · rw [if_pos huc] at e
      rw [decide_eq_true huc] at hq
      simp (disch := omega) [hx, at_u8' hx, hq]
      intro b' hb'
      simp (disch := omega)
      refine app_own ho ((Sub.refl _).put hb' _) (by simp (disch := omega); rfl) rfl rfl (by omega) (by simp (disch := omega)) (by simp (disch := omega); omega) ?_
      intro v' M'' N'' ho' hs'
      simp (disch := omega)
      refine Rnd.mk'' M'' (i + 1, v') hs' (by simp only; omega) (by (repeat (first | exact km | refine kp rfl ?_ | refine km' rfl ?_))) (by rw [e]; simp (disch := omega)) ⟨by simp only; omega, ?_⟩
      simp only
      rw [e, ← strs_snoc]
      exact ho'
    · rw [if_neg huc] at e
      rw [decide_eq_false huc] at hq
      simp (disch := omega) [hx, at_u8' hx, hq]
      refine Rnd.mk' (i + 1, v) (by simp only; omega) (by (repeat (first | exact km | refine kp rfl ?_ | refine km' rfl ?_))) (by rw [e]; simp (disch := omega)) ⟨by simp only; omega, ?_⟩
      simp only
      rw [e]; exact ho
  · have hi' : i = l.length := by omega
    subst hi'
    have hL : splL l c = (splN l c l.length).1 ++ [l.drop (splN l c l.length).2] := rfl
    generalize splN l c l.length = P at *
    obtain ⟨P1, P2⟩ := P
    simp only at hat ho hL
    simp (disch := omega)
    intro b' hb'
    simp (disch := omega)
    refine app_own ho ((Sub.refl _).put hb' _) (by simp (disch := omega); rfl) rfl rfl (by omega) (by simp (disch := omega)) (by simp (disch := omega); omega) ?_
    intro v' M'' N'' ho' hs'
    simp (disch := omega)
    refine ret_sub hs' (h v' _ ?_)
    rw [hL, ← strs_snoc]
    exact ho'
/-- A slice of one's own stands in a memory of its own. -/
theorem own_alone {Mb N : Mem} {v : Value} {xs : List Value} (o : Own Mb v xs N) : ∃ D : Mem, Rd D v xs ∧ Sub D N ∧ ∀ i, Mb i ≠ none → D i = none := by
  rcases o with ⟨rfl, rfl, rfl⟩ | ⟨b, c, rfl, hb, hc, rfl⟩
  · exact ⟨emptyM, .inl ⟨none, 0, rfl, rfl⟩, empty_sub _, fun _ _ => rfl⟩
  · refine ⟨emptyM.put b (.cells true xs c), Rd.new rfl hc, ?_, ?_⟩
    · intro i B hi
      by_cases e : i = b
      · subst e; rw [put_same] at hi ⊢; exact hi
      · rw [put_ne _ _ e] at hi; cases hi
    · intro i hi
      have e : i ≠ b := by rintro rfl; exact hi hb
      rw [put_ne _ _ e]; rfl
theorem DrR.keepT {s : Rng} {M N : Mem} (d : DrR s M N) {i : Nat} (h : M i ≠ none) : N i ≠ none := by
  by_cases e : i = s.b
  · rw [e]; exact d.src.told
  · cases hM : M i with
    | none => exact absurd hM h
    | some B => rw [d.at e hM]; intro q; cases q
theorem DrR.put {s : Rng} {M N : Mem} {b2 : Nat} (hs : SrcR M s) (d : DrR s M N) (hb : M b2 = none) (B : Blk) : DrR s M (N.put b2 B) := by
  have hne : b2 ≠ s.b := by rintro rfl; exact hs.told hb
  have hk : ∀ D : Mem, D s.b = none → Sub D M → Sub D (N.put b2 B) := by
    intro D hD hDM i C hi
    have e : i ≠ b2 := by
      rintro rfl
      have := hDM _ _ hi
      rw [hb] at this
      cases this
    rw [put_ne _ _ e]
    exact d.keep D hD hDM i C hi
  refine ⟨hk, ?_⟩
  obtain ⟨i, w, h1, h2, h3, h4⟩ := d.src
  obtain ⟨_, _, _, hv, _, _⟩ := hs
  refine ⟨i, w, by rw [put_ne _ _ (Ne.symm hne)]; exact h1, hv.sub ?_, h3, h4⟩
  exact sub_delM (hk _ (del_none _ _) (del_subM _ _)) (del_none _ _)
def texts9 : List (List UInt8) := [[97, 98, 44, 97], [97, 98, 44, 98, 97], [97, 98, 44, 97, 97], [97, 98, 99, 44, 97, 99, 44, 98], [97, 98, 44, 97, 99, 44, 97], [97, 44, 97, 98], [97, 98, 99, 97, 98, 44, 97, 99, 97, 98, 99, 98, 44, 97, 99, 98, 99, 97, 99, 98], [97, 98, 99, 44, 98, 99, 97, 44, 99, 97, 98], [97, 98, 44, 99, 44]]
theorem texts9_len : texts9.length = 9 := nr rfl
theorem texts9_in : ∀ l ∈ texts9, l.length ≤ 20 := by decide
theorem texts9_eq : [str [97, 98, 44, 97], str [97, 98, 44, 98, 97], str [97, 98, 44, 97, 97], str [97, 98, 99, 44, 97, 99, 44, 98], str [97, 98, 44, 97, 99, 44, 97], str [97, 44, 97, 98], str [97, 98, 99, 97, 98, 44, 97, 99, 97, 98, 99, 98, 44, 97, 99, 98, 99, 97, 99, 98], str [97, 98, 99, 44, 98, 99, 97, 44, 99, 97, 98], str [97, 98, 44, 99, 44]] = strs texts9 := nr rfl
def MorOk (ws : List (List UInt8)) : Prop := ws.length ≤ 100 ∧ ∀ w ∈ ws, w.length ≤ 100
set_option maxHeartbeats 1000000 in
theorem drawMor_does (s : Rng) (M : Mem) (R : Value → Mem → Prop) (hs : SrcR M s) (h : ∀ v ws D M', (∀ i, M i ≠ none → D i = none) → Rd D v (strs ws) → Sub D M' → DrR s M M' → 1 ≤ ws.length → MorOk ws → R (.agg #[v]) M') : Does Tryz.prog 119 [.pointer (some ⟨s.b, 0, none⟩)] M R := by
  refine does_fn tab_ok Tryz.func119 rfl (by kernel_rfl) (by kernel_rfl) Tryz.ntmps119 Tryz.results119 rfl ?_
  simp (disch := omega)
  intro b2 hb2
  have hne : b2 ≠ s.b := by rintro rfl; exact hs.told hb2
  have d0 : DrR s M (M.put b2 (.cells true [.slice none 0 0] 1)) := DrR.sub hs ((Sub.refl M).put hb2 _)
  have k2 : (M.put b2 (.cells true [.slice none 0 0] 1)) b2 = some (.cells true [.slice none 0 0] 1) := put_same _ _ _
  simp (disch := omega)
  generalize M.put b2 (.cells true [.slice none 0 0] 1) = M0 at *
  have fin : ∀ v ws Mb N, DrR s M0 Mb → Own Mb v (strs ws) N → 1 ≤ ws.length → MorOk ws → R (.agg #[v]) (N.put b2 (.cells true [v] 1)) := by
    intro v ws Mb N d o h1 h2
    obtain ⟨D, r1, r2, r3⟩ := own_alone o
    have hMb2 : Mb b2 ≠ none := by rw [d.at hne k2]; intro q; cases q
    refine h v ws D _ (fun i hi => r3 i (d.keepT (d0.keepT hi))) r1 ?_ ?_ h1 h2
    · intro i B hi
      have e : i ≠ b2 := by rintro rfl; rw [r3 _ hMb2] at hi; cases hi
      rw [put_ne _ _ e]
      exact r2 _ _ hi
    · exact DrR.put hs ((d0.trans d).trans (DrR.sub d.src o.sub)) hb2 _
  refine nx_does s 5 _ _ d0.src ?_
  intro x M1 _ hx d1
  have hx := hx (by omega)
  obtain ⟨i, rfl⟩ : ∃ i : Nat, x = i := ⟨x.toNat, by omega⟩
  by_cases h0 : i = 0
  · subst h0
    simp (disch := omega) [texts9_eq, texts9_len]
    intro bn hbn
    simp (disch := omega) [texts9_len]
    have kn : (M1.put bn (.cells true (strs texts9) 9)) bn = some (.cells true (strs texts9) 9) := put_same _ _ _
    have nb : bn ≠ s.b := by rintro rfl; exact d1.src.told hbn
    have d2 : DrR s M0 (M1.put bn (.cells true (strs texts9) 9)) := d1.trans (DrR.sub d1.src ((Sub.refl _).put hbn _))
    generalize M1.put bn (.cells true (strs texts9) 9) = M2 at *
    refine nx_does s 9 _ _ d2.src ?_
    intro y M3 _ hy d3
    have hy := hy (by omega)
    obtain ⟨j, rfl⟩ : ∃ j : Nat, y = j := ⟨y.toNat, by omega⟩
    have hj : j < texts9.length := by rw [texts9_len]; omega
    have gl := get_of (d3.at nb kn) j
    rw [strs_get, List.getElem?_eq_getElem hj, Option.map_some] at gl
    have hl20 := texts9_in _ (List.getElem_mem hj)
    generalize texts9[j] = l at *
    simp (disch := omega) [gl]
    refine split_does l 44 _ _ (by omega) ?_
    intro v M4 o4
    have hsl := splL_len l 44
    have k4 := o4.sub _ _ ((d2.trans d3).at hne k2)
    have hf := fin v _ M3 M4 (d2.trans d3) o4 hsl.1 ⟨by omega, fun w hw => by have := hsl.2.2 w hw; omega⟩
    obtain ⟨a, c, rfl, _⟩ := o4.rd.opened
    rw [strs_length] at hf ⊢
    simp (disch := omega) [k4, set_is]
    exact ret_of hf
  · have h0' : ¬ (i : Int) = 0 := by omega
    by_cases h1 : i = 1
    · subst h1
      simp (disch := omega)
      intro bn hbn
      simp (disch := omega)
      have r5 := rd_fresh d1.src (w := true) (xs := ints [1, 2, 2, 3, 3]) (n := 5) (c := 5) hbn rfl (Nat.le_refl 5)
      have d2 : DrR s M0 (M1.put bn (.cells true (ints [1, 2, 2, 3, 3]) 5)) := d1.trans (DrR.sub d1.src ((Sub.refl _).put hbn _))
      refine pick_does s _ [1, 2, 2, 3, 3] _ _ d2.src r5 (by simp) (by simp) ?_
      intro z hz M3 d3
      have hz : 1 ≤ z ∧ z ≤ 3 := by
        simp only [List.mem_cons, List.not_mem_nil, or_false] at hz
        omega
      simp (disch := omega)
      refine nx_does s 4 _ _ d3.src ?_
      intro y M4 _ hy d4
      have hy := hy (by omega)
      have d04 := (d2.trans d3).trans d4
      clear d2 d3 d4 r5
      simp (disch := omega)
      intro b6 hb6
      simp (disch := omega)
      refine loop_to tab_ok [6, 7, 32, 33, 34, 35, 36, 37, 38, 39, 40, 41, 42, 43] (fun x : List (List UInt8) × Value => [(7, .int .i64 (x.1.length : Nat)), (6, x.2)]) (fun x N => x.1.length ≤ z.toNat ∧ MorOk x.1 ∧ ∃ Mb, DrR s M0 Mb ∧ Own Mb x.2 (strs x.1) N) (fun x => z.toNat - x.1.length) ([], .slice (some ⟨b6, 0, none⟩) 0 0) (by kernel_rfl) (by simp (disch := omega)) ⟨Nat.zero_le _, ⟨Nat.zero_le _, fun w hw => by cases hw⟩, M4, d04, Own.new hb6 rfl (Nat.le_refl 0)⟩ ?_
      rintro ⟨ws, v⟩ N g ⟨hw, hok, Mb, dM, ho⟩
      simp only at hw hok ho
      have dN := dM.trans (DrR.sub dM.src ho.sub)
      by_cases hlt : (ws.length : Int) < z
      · simp (disch := omega) [hlt]
        refine drawOf_does s _ _ _ _ dN.src (by omega) (by omega) ?_
        intro w N2 hwl _ dw
        obtain ⟨Mb2, M2', o2, s2, e2⟩ := own_draw ho dM.src (Sub.refl N) dw
        simp (disch := omega)
        intro b' hb'
        simp (disch := omega)
        refine app_own o2 (s2.trans ((Sub.refl _).put hb' _)) (by simp (disch := omega); rfl) rfl rfl (by omega) (by simp (disch := omega)) (by simp (disch := omega); omega) ?_
        intro v' M'' N'' ho' hs'
        simp (disch := omega)
        refine Rnd.mk'' M'' (ws ++ [w], v') hs' (by simp only [List.length_append, List.length_singleton]; omega) (by (repeat (first | exact km | refine kp rfl ?_ | refine km' rfl ?_))) (by simp (disch := omega)) ⟨by simp only [List.length_append, List.length_singleton]; omega, ⟨by rw [List.length_append, List.length_singleton]; omega, ?_⟩, Mb2, dM.trans e2, ?_⟩
        · intro u hu
          rcases List.mem_append.1 hu with hu | hu
          · exact hok.2 u hu
          · rw [List.mem_singleton.1 hu]; omega
        · simp only
          rw [← strs_snoc]
          exact ho'
      · have hL : 1 ≤ ws.length := by omega
        have k6 := ho.sub _ _ (dM.at hne k2)
        have hf := fin v ws Mb N dM ho hL hok
        obtain ⟨a, c, rfl, _⟩ := ho.rd.opened
        rw [strs_length] at hf ⊢
        simp (disch := omega) [hlt, k6, set_is]
        exact ret_of hf
    · have h1' : ¬ (i : Int) = 1 := by omega
      simp (disch := omega) [h0', h1']
      intro bn hbn
      simp (disch := omega)
      have r5 := rd_fresh d1.src (w := true) (xs := ints [1, 2, 2, 3, 3, 4, 5]) (n := 7) (c := 7) hbn rfl (Nat.le_refl 7)
      have d2 : DrR s M0 (M1.put bn (.cells true (ints [1, 2, 2, 3, 3, 4, 5]) 7)) := d1.trans (DrR.sub d1.src ((Sub.refl _).put hbn _))
      refine pick_does s _ [1, 2, 2, 3, 3, 4, 5] _ _ d2.src r5 (by simp) (by simp) ?_
      intro z hz M3 d3
      have hz : 1 ≤ z ∧ z ≤ 5 := by
        simp only [List.mem_cons, List.not_mem_nil, or_false] at hz
        omega
      have d04 := d2.trans d3
      clear d2 d3 r5
      simp (disch := omega)
      intro b6 hb6
      simp (disch := omega)
      refine loop_to tab_ok [9, 10, 50, 51, 52, 53, 54, 55, 56, 57, 58, 59, 60, 61, 62, 63, 64, 65] (fun x : List (List UInt8) × Value => [(10, .int .i64 (x.1.length : Nat)), (9, x.2)]) (fun x N => x.1.length ≤ z.toNat ∧ MorOk x.1 ∧ (∀ w ∈ x.1, w.length ≤ 20) ∧ ∃ Mb, DrR s M0 Mb ∧ Own Mb x.2 (strs x.1) N) (fun x => z.toNat - x.1.length) ([], .slice (some ⟨b6, 0, none⟩) 0 0) (by kernel_rfl) (by simp (disch := omega)) ⟨Nat.zero_le _, ⟨Nat.zero_le _, fun w hw => by cases hw⟩, (fun w hw => by cases hw), M3, d04, Own.new hb6 rfl (Nat.le_refl 0)⟩ ?_
      rintro ⟨ws, v⟩ N g ⟨hw, hok, h20, Mb, dM, ho⟩
      simp only at hw hok ho h20
      have dN := dM.trans (DrR.sub dM.src ho.sub)
      by_cases hlt : (ws.length : Int) < z
      · simp (disch := omega) [hlt]
        intro b5 hb5
        simp (disch := omega)
        have r5 := rd_fresh dN.src (w := true) (xs := ints [4, 6, 13]) (n := 3) (c := 3) hb5 rfl (Nat.le_refl 3)
        have dn2 : DrR s N (N.put b5 (.cells true (ints [4, 6, 13]) 3)) := DrR.sub dN.src ((Sub.refl _).put hb5 _)
        refine pick_does s _ [4, 6, 13] _ _ dn2.src r5 (by simp) (by simp) ?_
        intro q hq N3 dn3
        have hq : 4 ≤ q ∧ q ≤ 13 := by
          simp only [List.mem_cons, List.not_mem_nil, or_false] at hq
          omega
        simp (disch := omega)
        refine nx_does s q _ _ dn3.src ?_
        intro y N4 _ hy dn4
        have hy := hy (by omega)
        simp (disch := omega)
        refine drawOf_does s _ _ _ _ dn4.src (by omega) (by omega) ?_
        intro w N5 hwl _ dw
        have hwl : w.length ≤ 13 := by omega
        obtain ⟨Mb2, M2', o2, s2, e2⟩ := own_draw ho dM.src (Sub.refl N) (((dn2.trans dn3).trans dn4).trans dw)
        simp (disch := omega)
        intro b' hb'
        simp (disch := omega)
        refine app_own o2 (s2.trans ((Sub.refl _).put hb' _)) (by simp (disch := omega); rfl) rfl rfl (by omega) (by simp (disch := omega)) (by simp (disch := omega); omega) ?_
        intro v' M'' N'' ho' hs'
        simp (disch := omega)
        refine Rnd.mk'' M'' (ws ++ [w], v') hs' (by simp only [List.length_append, List.length_singleton]; omega) (by (repeat (first | exact km | refine kp rfl ?_ | refine km' rfl ?_))) (by simp (disch := omega)) ⟨by simp only [List.length_append, List.length_singleton]; omega, ⟨by rw [List.length_append, List.length_singleton]; omega, ?_⟩, ?_, Mb2, dM.trans e2, ?_⟩
        · intro u hu
          rcases List.mem_append.1 hu with hu | hu
          · exact hok.2 u hu
          · rw [List.mem_singleton.1 hu]; omega
        · intro u hu
          rcases List.mem_append.1 hu with hu | hu
          · exact h20 u hu
          · rw [List.mem_singleton.1 hu]; omega
        · simp only
          rw [← strs_snoc]
          exact ho'
      · have hL : 1 ≤ ws.length := by omega
        simp (disch := omega) [hlt]
        refine nx_does s 2 _ _ dN.src ?_
        intro y N2 _ hy dy
        have hy := hy (by omega)
        obtain ⟨Mb2, M2', o2, s2, e2⟩ := own_draw ho dM.src (Sub.refl N) dy
        have dM2 := dM.trans e2
        rcases o2 with ⟨_, he, _⟩ | ⟨bv, cv, rfl, hbv, hcv, rfl⟩
        · have := congrArg List.length he
          rw [strs_length, List.length_nil] at this
          omega
        have hbv2 : bv ≠ b2 := by rintro rfl; rw [dM2.at hne k2] at hbv; cases hbv
        have kv : N2 bv = some (.cells true (strs ws) cv) := s2 _ _ (put_same _ _ _)
        have k6 : N2 b2 = some (.cells true [.slice none 0 0] 1) := s2 _ _ (by rw [put_ne _ _ (Ne.symm hbv2)]; exact dM2.at hne k2)
        rw [strs_length] at hcv ⊢
        obtain ⟨w0, rest, rfl⟩ : ∃ w0 rest, ws = w0 :: rest := by
          cases ws with
          | nil => simp at hL
          | cons a l => exact ⟨a, l, rfl⟩
        have h0 : (strs (w0 :: rest))[0]? = some (str w0) := rfl
        have hw20 := h20 w0 List.mem_cons_self
        have h0' : ∀ hh, (strs (w0 :: rest))[0]'hh = str w0 := fun _ => rfl
        have hfA := fin _ (w0 :: rest) Mb2 _ dM2 (Own.new hbv (xs := strs (w0 :: rest)) (n := (w0 :: rest).length) (c := cv) (by rw [strs_length]) hcv) hL hok
        have hset : (strs (w0 :: rest)).set 0 (str (97 :: w0)) = strs ((97 :: w0) :: rest) := rfl
        have s3 : ∀ X, Sub (Mb2.put bv X) (N2.put bv X) := by
          intro X i B hi
          by_cases e : i = bv
          · subst e; rw [put_same] at hi ⊢; exact hi
          · rw [put_ne _ _ e] at hi ⊢
            exact s2 _ _ (by rw [put_ne _ _ e]; exact hi)
        have k7 : ∀ X, (N2.put bv X) b2 = some (.cells true [.slice none 0 0] 1) := fun X => by rw [put_ne _ _ (Ne.symm hbv2)]; exact k6
        have hLl : 0 < (w0 :: rest).length := by simp
        by_cases hy0 : y = 0
        · by_cases h12 : (w0.length : Int) < 12
          · have hfB := fin _ ((97 :: w0) :: rest) Mb2 _ dM2 (Own.new hbv (xs := strs ((97 :: w0) :: rest)) (n := (w0 :: rest).length) (c := cv) (by rw [strs_length]; rfl) hcv) (by simp) ⟨by simpa using hok.1, fun u hu => by
              rcases List.mem_cons.1 hu with rfl | hu
              · rw [List.length_cons]; omega
              · exact hok.2 u (List.mem_cons_of_mem _ hu)⟩
            generalize hLL : (w0 :: rest).length = L at *
            simp (disch := omega) [hy0, h12, get_of kv, kv, h0, h0', k6, k7, set_is, hset]
            exact ret_sub ((s3 _).both _ _) hfB
          · generalize hLL : (w0 :: rest).length = L at *
            simp (disch := omega) [hy0, h12, get_of kv, kv, h0, h0', k6, set_is]
            exact ret_sub (s2.both _ _) hfA
        · generalize hLL : (w0 :: rest).length = L at *
          simp (disch := omega) [hy0, get_of kv, kv, h0, h0', k6, set_is]
          exact ret_sub (s2.both _ _) hfA
theorem badMor_does (s : Rng) (v : Value) (ws : List (List UInt8)) (D M : Mem) (F : Nat → Prop) (R : Value → Mem → Prop) (hs : SrcR M s) (hFM : ∀ i, F i → M i ≠ none) (hFD : ∀ i, F i → D i = none) (hD : D s.b = none) (hv : Rd D v (strs ws)) (hDM : Sub D M) (h1 : 1 ≤ ws.length) (hok : MorOk ws)
    (h : ∀ v' ws' D' M', D' s.b = none → (∀ i, F i → D' i = none) → Rd D' v' (strs ws') → Sub D' M' → DrR s M M' → ws'.length ≤ 200 → (∀ w ∈ ws', w.length ≤ 100) → R (.agg #[v']) M') : Does Tryz.prog 121 [.pointer (some ⟨s.b, 0, none⟩), .agg #[v]] M R := by
  obtain ⟨a, c, rfl, _⟩ := hv.opened
  rw [strs_length] at hv ⊢
  obtain ⟨L, hL⟩ : ∃ L, L = ws.length := ⟨_, rfl⟩
  rw [← hL] at hv h1 ⊢
  have hLe : L ≤ 100 := by rw [hL]; exact hok.1
  refine does_fn tab_ok Tryz.func121 rfl (by kernel_rfl) (by kernel_rfl) Tryz.ntmps121 Tryz.results121 rfl ?_
  simp (disch := omega)
  intro b3 hb3
  simp (disch := omega)
  intro b4 hb4
  have hne3 : b3 ≠ s.b := by rintro rfl; exact hs.told hb3
  have hs3 := (Sub.refl M).put hb3 (.cells true [.slice a L c] 1)
  have hs4 := hs3.putN hb4 (.cells true [.slice none 0 0] 1)
  have hne4 : b4 ≠ s.b := by rintro rfl; exact (hs.sub hs3).told hb4
  have h43 : b4 ≠ b3 := by rintro rfl; rw [put_same] at hb4; cases hb4
  have hb4M : M b4 = none := by rw [put_ne _ _ h43] at hb4; exact hb4
  have d0 := DrR.sub hs hs4
  have k3 : ((M.put b3 (.cells true [.slice a L c] 1)).put b4 (.cells true [.slice none 0 0] 1)) b3 = some (.cells true [.slice a L c] 1) := by rw [put_ne _ _ (Ne.symm h43)]; exact put_same _ _ _
  have k4 : ((M.put b3 (.cells true [.slice a L c] 1)).put b4 (.cells true [.slice none 0 0] 1)) b4 = some (.cells true [.slice none 0 0] 1) := put_same _ _ _
  have hD0 := hDM.trans hs4
  simp (disch := omega)
  generalize (M.put b3 (.cells true [.slice a L c] 1)).put b4 (.cells true [.slice none 0 0] 1) = M0 at *
  have fin : ∀ v' ws' Mb N, DrR s M0 Mb → Own Mb v' (strs ws') N → ws'.length ≤ 200 → (∀ w ∈ ws', w.length ≤ 100) → R (.agg #[v']) (N.put b4 (.cells true [v'] 1)) := by
    intro v' ws' Mb N d o h1 h2
    obtain ⟨D', r1, r2, r3⟩ := own_alone o
    have hMb4 : Mb b4 ≠ none := by rw [d.at hne4 k4]; intro q; cases q
    refine h v' ws' D' _ (r3 _ d.src.told) (fun i hi => r3 i (d.keepT (d0.keepT (hFM i hi)))) r1 ?_ ?_ h1 h2
    · intro i B hi
      have e : i ≠ b4 := by rintro rfl; rw [r3 _ hMb4] at hi; cases hi
      rw [put_ne _ _ e]
      exact r2 _ _ hi
    · exact DrR.put hs ((d0.trans d).trans (DrR.sub d.src o.sub)) hb4M _
  refine nx_does s 40 _ _ d0.src ?_
  intro x M1 _ hx d1
  have hx := hx (by omega)
  obtain ⟨i, rfl⟩ : ∃ i : Nat, x = i := ⟨x.toNat, by omega⟩
  have q3 := d1.at hne3 k3
  have q4 := d1.at hne4 k4
  have hD1 := d1.keep D hD hD0
  by_cases h0 : i = 0
  · subst h0
    simp (disch := omega)
    intro bn hbn
    have o0 : Own M1 (.slice (some ⟨bn, 0, none⟩) 0 0) [] (M1.put bn (.cells true [] 0)) := Own.new hbn rfl (Nat.le_refl 0)
    dsimp only
    generalize M1.put bn (.cells true [] 0) = N0 at *
    generalize Value.slice (some ⟨bn, 0, none⟩) 0 0 = v0 at *
    have q3' := o0.sub _ _ q3
    simp (disch := omega) [get_of q3', q3']
    refine app_own o0 (Sub.refl _) (rd_srcL ((hv.sub hD1).sub o0.sub) (by rw [strs_length]; omega)) rfl rfl (by omega) (flat_strs ws) (by simp (disch := omega); omega) ?_
    intro v1 A1 B1 o1 s1
    simp (disch := omega)
    intro bf hbf
    simp (disch := omega)
    refine app_own o1 (s1.trans ((Sub.refl _).put hbf _)) (by simp (disch := omega); rfl) rfl rfl (by omega) (by simp (disch := omega)) (by simp (disch := omega); omega) ?_
    intro v2 A2 B2 o2 s2
    have e2 : [] ++ strs ws ++ [str [102]] = strs (ws ++ [[102]]) := strs_snoc ws [102]
    rw [e2] at o2
    have hf := fin v2 _ M1 A2 d1 o2 (by rw [List.length_append, List.length_singleton]; omega) (fun w hw => by
      rcases List.mem_append.1 hw with hw | hw
      · exact hok.2 w hw
      · rw [List.mem_singleton.1 hw]; decide)
    have z4 := s2 _ _ (o2.sub _ _ q4)
    obtain ⟨a5, c5, rfl, _⟩ := o2.rd.opened
    rw [strs_length] at hf ⊢
    generalize (ws ++ [[102]]).length = L2 at *
    simp (disch := omega) [z4, set_is]
    exact ret_sub (s2.both _ _) hf
  · have h0' : ¬ (i : Int) = 0 := by omega
    by_cases h1i : i = 1
    · subst h1i
      simp (disch := omega)
      intro bn hbn
      have o0 : Own M1 (.slice (some ⟨bn, 0, none⟩) 0 0) (strs []) (M1.put bn (.cells true [] 0)) := Own.new hbn rfl (Nat.le_refl 0)
      have hf := fin _ [] M1 _ d1 o0 (by simp) (fun w hw => by cases hw)
      have z4 := o0.sub _ _ q4
      dsimp only
      generalize M1.put bn (.cells true [] 0) = N0 at *
      simp (disch := omega) [z4, set_is]
      exact ret_of hf
    · have h1' : ¬ (i : Int) = 1 := by omega
      by_cases h2i : i = 2
      · subst h2i
        obtain ⟨bI, oI, rfl, hsb, hcL⟩ : ∃ bI oI, a = some ⟨bI, oI, none⟩ ∧ D.sub? bI oI L = some (strs ws) ∧ L ≤ c := by
          rcases hv with ⟨a', c', he, hz⟩ | ⟨b', o', c', he, hz, hle⟩
          · have := congrArg List.length hz
            rw [strs_length, List.length_nil] at this
            omega
          · rw [strs_length, ← hL] at he hz hle
            injection he with e1 e2 e3
            subst e1; subst e3
            exact ⟨b', o', rfl, hz, hle⟩
        simp (disch := omega)
        refine plays (lights [0, 5] (.alt 6 1 (lights [7] (.one 1 2 (lights [2, 3] (.one 4 1 (.one 8 2 (.one 9 1 (.one 10 2 .fin))))))) (.one 1 2 (lights [2, 3] (.alt 6 1 (lights [7] (.one 4 1 (.one 8 2 (.one 9 1 (.one 10 2 .fin))))) (.one 4 1 (.one 6 1 (lights [7] (.one 8 2 (.one 9 1 (.one 10 2 .fin)))))))))))  tab_ok (by kernel_rfl) (by kernel_rfl) (by rfl) ?_
        simp (disch := omega) [vT_alt, get_of q3, q3]
        refine ⟨?_, ?_⟩
        · skip
          refine nx_does s 3 _ _ d1.src ?_
          intro y M2 _ hy d2
          have hy := hy (by omega)
          obtain ⟨j, rfl⟩ : ∃ j : Nat, y = j := ⟨y.toNat, by omega⟩
          have p3 := d2.at hne3 q3
          have p4 := d2.at hne4 q4
          have hD2 := d2.keep D hD hD1
          have hj15 : (12 + (j : Int)).toNat ≤ 15 := by omega
          simp (disch := omega)
          intro bw hbw
          have sw := (Sub.refl M2).put hbw (.cells true [str (List.take (12 + (j : Int)).toNat [97, 98, 97, 98, 97, 98, 97, 98, 97, 98, 97, 98, 97, 98, 97])] 1)
          refine ⟨sw, ?_⟩
          dsimp only
          have o0 : Own M2 (.slice (some ⟨bw, 0, none⟩) 1 1) (strs [List.take (12 + (j : Int)).toNat [97, 98, 97, 98, 97, 98, 97, 98, 97, 98, 97, 98, 97, 98, 97]]) (M2.put bw (.cells true [str (List.take (12 + (j : Int)).toNat [97, 98, 97, 98, 97, 98, 97, 98, 97, 98, 97, 98, 97, 98, 97])] 1)) := Own.new hbw rfl (Nat.le_refl 1)
          have hwl : (List.take (12 + (j : Int)).toNat ([97, 98, 97, 98, 97, 98, 97, 98, 97, 98, 97, 98, 97, 98, 97] : List UInt8)).length ≤ 100 := by rw [List.length_take]; omega
          generalize List.take (12 + (j : Int)).toNat ([97, 98, 97, 98, 97, 98, 97, 98, 97, 98, 97, 98, 97, 98, 97] : List UInt8) = w at *
          generalize M2.put bw (.cells true [str w] 1) = N0 at *
          generalize Value.slice (some ⟨bw, 0, none⟩) 1 1 = v0 at *
          have z3 := o0.sub _ _ p3
          simp (disch := omega)
          refine app_own o0 (Sub.refl _) (src_tail hsb (hD2.trans o0.sub) h1 hcL) rfl rfl (by omega) (flat_strs (ws.drop 1)) (by simp (disch := omega); omega) ?_
          intro v2 A2 B2 o2 s2
          have e2 : strs [w] ++ strs (ws.drop 1) = strs (w :: ws.drop 1) := strs_append [w] (ws.drop 1)
          rw [e2] at o2
          have hf := fin v2 _ M2 A2 (d1.trans d2) o2 (by rw [List.length_cons, List.length_drop]; omega) (fun u hu => by
            rcases List.mem_cons.1 hu with rfl | hu
            · exact hwl
            · exact hok.2 u (List.mem_of_mem_drop hu))
          have z4 := s2 _ _ (o2.sub _ _ p4)
          obtain ⟨a5, c5, rfl, _⟩ := o2.rd.opened
          rw [strs_length] at hf ⊢
          generalize (w :: ws.drop 1).length = L2 at *
          simp (disch := omega) [z4, set_is]
          exact ret_sub (s2.both _ _) hf
        · skip
          refine nx_does s 3 _ _ d1.src ?_
          intro y M2 _ hy d2
          have hy := hy (by omega)
          obtain ⟨j, rfl⟩ : ∃ j : Nat, y = j := ⟨y.toNat, by omega⟩
          have p3 := d2.at hne3 q3
          have p4 := d2.at hne4 q4
          have hD2 := d2.keep D hD hD1
          have hj15 : (12 + (j : Int)).toNat ≤ 15 := by omega
          simp (disch := omega) [vT_alt, get_of p3, p3, sub_of p3]
          refine ⟨?_, ?_⟩
          · skip
            intro bw hbw
            have sw := (Sub.refl M2).put hbw (.cells true [str (List.take (12 + (j : Int)).toNat [97, 98, 97, 98, 97, 98, 97, 98, 97, 98, 97, 98, 97, 98, 97])] 1)
            refine ⟨sw, ?_⟩
            dsimp only
            have o0 : Own M2 (.slice (some ⟨bw, 0, none⟩) 1 1) (strs [List.take (12 + (j : Int)).toNat [97, 98, 97, 98, 97, 98, 97, 98, 97, 98, 97, 98, 97, 98, 97]]) (M2.put bw (.cells true [str (List.take (12 + (j : Int)).toNat [97, 98, 97, 98, 97, 98, 97, 98, 97, 98, 97, 98, 97, 98, 97])] 1)) := Own.new hbw rfl (Nat.le_refl 1)
            have hwl : (List.take (12 + (j : Int)).toNat ([97, 98, 97, 98, 97, 98, 97, 98, 97, 98, 97, 98, 97, 98, 97] : List UInt8)).length ≤ 100 := by rw [List.length_take]; omega
            generalize List.take (12 + (j : Int)).toNat ([97, 98, 97, 98, 97, 98, 97, 98, 97, 98, 97, 98, 97, 98, 97] : List UInt8) = w at *
            generalize M2.put bw (.cells true [str w] 1) = N0 at *
            generalize Value.slice (some ⟨bw, 0, none⟩) 1 1 = v0 at *
            have z3 := o0.sub _ _ p3
            simp (disch := omega)
            refine app_own o0 (Sub.refl _) (src_tail hsb (hD2.trans o0.sub) h1 hcL) rfl rfl (by omega) (flat_strs (ws.drop 1)) (by simp (disch := omega); omega) ?_
            intro v2 A2 B2 o2 s2
            have e2 : strs [w] ++ strs (ws.drop 1) = strs (w :: ws.drop 1) := strs_append [w] (ws.drop 1)
            rw [e2] at o2
            have hf := fin v2 _ M2 A2 (d1.trans d2) o2 (by rw [List.length_cons, List.length_drop]; omega) (fun u hu => by
              rcases List.mem_cons.1 hu with rfl | hu
              · exact hwl
              · exact hok.2 u (List.mem_of_mem_drop hu))
            have z4 := s2 _ _ (o2.sub _ _ p4)
            obtain ⟨a5, c5, rfl, _⟩ := o2.rd.opened
            rw [strs_length] at hf ⊢
            generalize (w :: ws.drop 1).length = L2 at *
            simp (disch := omega) [z4, set_is]
            exact ret_sub (s2.both _ _) hf
          · skip
            intro bw hbw
            have sw := (Sub.refl M2).put hbw (.cells true [str (List.take (12 + (j : Int)).toNat [97, 98, 97, 98, 97, 98, 97, 98, 97, 98, 97, 98, 97, 98, 97])] 1)
            refine ⟨sw, ?_⟩
            dsimp only
            have o0 : Own M2 (.slice (some ⟨bw, 0, none⟩) 1 1) (strs [List.take (12 + (j : Int)).toNat [97, 98, 97, 98, 97, 98, 97, 98, 97, 98, 97, 98, 97, 98, 97]]) (M2.put bw (.cells true [str (List.take (12 + (j : Int)).toNat [97, 98, 97, 98, 97, 98, 97, 98, 97, 98, 97, 98, 97, 98, 97])] 1)) := Own.new hbw rfl (Nat.le_refl 1)
            have hwl : (List.take (12 + (j : Int)).toNat ([97, 98, 97, 98, 97, 98, 97, 98, 97, 98, 97, 98, 97, 98, 97] : List UInt8)).length ≤ 100 := by rw [List.length_take]; omega
            generalize List.take (12 + (j : Int)).toNat ([97, 98, 97, 98, 97, 98, 97, 98, 97, 98, 97, 98, 97, 98, 97] : List UInt8) = w at *
            generalize M2.put bw (.cells true [str w] 1) = N0 at *
            generalize Value.slice (some ⟨bw, 0, none⟩) 1 1 = v0 at *
            have z3 := o0.sub _ _ p3
            simp (disch := omega) [get_of z3, z3, sub_of z3]
            refine app_own o0 (Sub.refl _) (src_tail hsb (hD2.trans o0.sub) h1 hcL) rfl rfl (by omega) (flat_strs (ws.drop 1)) (by simp (disch := omega); omega) ?_
            intro v2 A2 B2 o2 s2
            have e2 : strs [w] ++ strs (ws.drop 1) = strs (w :: ws.drop 1) := strs_append [w] (ws.drop 1)
            rw [e2] at o2
            have hf := fin v2 _ M2 A2 (d1.trans d2) o2 (by rw [List.length_cons, List.length_drop]; omega) (fun u hu => by
              rcases List.mem_cons.1 hu with rfl | hu
              · exact hwl
              · exact hok.2 u (List.mem_of_mem_drop hu))
            have z4 := s2 _ _ (o2.sub _ _ p4)
            obtain ⟨a5, c5, rfl, _⟩ := o2.rd.opened
            rw [strs_length] at hf ⊢
            generalize (w :: ws.drop 1).length = L2 at *
            simp (disch := omega) [z4, set_is]
            exact ret_sub (s2.both _ _) hf
      · have h2' : ¬ (i : Int) = 2 := by omega
        have hD4 : Sub D (M1.put b4 (.cells true [.slice a L c] 1)) := by
          intro j B hj
          have e : j ≠ b4 := by rintro rfl; rw [none_of hDM hb4M] at hj; cases hj
          rw [put_ne _ _ e]
          exact hD1 _ _ hj
        have hf := h (.slice a L c) ws D _ hD hFD (by rw [hL]; rw [hL] at hv; exact hv) hD4 (DrR.put hs (d0.trans d1) hb4M _) (by omega) hok.2
        simp (disch := omega) [h0', h1', h2', get_of q3, q3, q4, set_is, sub_of q3]
        exact ret_of hf
theorem drawM_does (s : Rng) (M : Mem) (R : Value → Mem → Prop) (hs : SrcR M s) (h : ∀ v ws D M', (∀ i, M i ≠ none → D i = none) → Rd D v (strs ws) → Sub D M' → DrR s M M' → ws.length ≤ 200 → (∀ w ∈ ws, w.length ≤ 100) → R (.agg #[v]) M') : Does Tryz.prog 66 [.pointer (some ⟨s.b, 0, none⟩)] M R := by
  refine does_fn tab_ok Tryz.func66 rfl (by kernel_rfl) (by kernel_rfl) Tryz.ntmps66 Tryz.results66 rfl ?_
  simp (disch := omega)
  intro b2 hb2
  have hne : b2 ≠ s.b := by rintro rfl; exact hs.told hb2
  have d0 : DrR s M (M.put b2 (.cells true [.slice none 0 0] 1)) := DrR.sub hs ((Sub.refl M).put hb2 _)
  have k2 : (M.put b2 (.cells true [.slice none 0 0] 1)) b2 = some (.cells true [.slice none 0 0] 1) := put_same _ _ _
  simp (disch := omega)
  generalize M.put b2 (.cells true [.slice none 0 0] 1) = M0 at *
  refine drawMor_does s _ _ d0.src ?_
  intro v ws D M1 hD hv hD1 d1 h1 hok
  have hDs : D s.b = none := hD _ d0.src.told
  simp (disch := omega)
  refine badMor_does s v ws D _ (fun i => M0 i ≠ none) _ d1.src (fun i hi => d1.keepT hi) hD hDs hv hD1 h1 hok ?_
  intro v' ws' D' M2 hD' hF hv' hD2 d2 h200 h100
  have k2' := (d1.trans d2).at hne k2
  have hb2D : Sub D' (M2.put b2 (.cells true [v'] 1)) := by
    intro j B hj
    have e : j ≠ b2 := by
      rintro rfl
      rw [hF j (by rw [k2]; intro q; cases q)] at hj
      cases hj
    rw [put_ne _ _ e]
    exact hD2 _ _ hj
  have hf := h v' ws' D' _ (fun i hi => hF i (d0.keepT hi)) hv' hb2D (DrR.put hs ((d0.trans d1).trans d2) hb2 _) h200 h100
  obtain ⟨a, c, rfl, _⟩ := hv'.opened
  rw [strs_length] at hf ⊢
  simp (disch := omega) [k2', set_is]
  exact ret_of hf
end Go.Proofs.YticejlplbibegaaGreatDoor

/- Contracts: draws of the reference out of a source of numbers: numbers, letters, words, morphisms. -/
import Derived.Test.YticejlplbibegaaDoorC43
namespace Go.Proofs.YticejlplbibegaaDoor
open Go
set_option linter.unusedSimpArgs false
set_option linter.unusedVariables false

theorem at_u8' {L : List UInt8} {j : Nat} {v : UInt8} (h : L[j]? = some v) (hj : j < L.length) : L[j] = v := by
  rw [List.getElem?_eq_getElem hj] at h
  injection h
theorem src_tail {D N : Mem} {bI oI L c : Nat} {ws : List (List UInt8)} (h : D.sub? bI oI L = some (strs ws)) (hs : Sub D N) (h1 : 1 ≤ L) (hc : L ≤ c) : srcOf N (.slice (some ⟨bI, offAt oI 1 c 1, none⟩) (L - 1) (c - 1)) = some (strs (ws.drop 1)) := by
  show N.sub? bI (offAt oI 1 c 1) (L - 1) = some (strs (ws.drop 1))
  unfold Mem.sub? at *
  split at h
  · rename_i own xs tot hb
    rw [hs _ _ hb]
    split at h
    · rename_i hle
      injection h with h
      have e : strs (ws.drop 1) = (strs ws).drop 1 := by simp [strs, List.map_drop]
      simp only
      unfold offAt
      by_cases hc1 : c = 1
      · have hL : L = 1 := by omega
        subst hL
        rw [if_pos hc1, if_pos (by omega), e, ← h]
        simp
      · rw [if_neg hc1, if_pos (by omega), e, ← h, List.drop_take, List.drop_drop, Nat.mul_one]
    · cases h
  · cases h
theorem rd_srcL {N : Mem} {v : Value} {xs : List Value} (h : Rd N v xs) (h1 : 1 ≤ xs.length) : srcOf N v = some xs := by
  rcases h with ⟨a, c, rfl, rfl⟩ | ⟨b, o, c, rfl, h, _⟩
  · simp at h1
  · exact h
/-- A source of numbers: its block, and the code that it reads. -/
structure Rng where
  b : Nat
  v : Value
  xs : List UInt8
def SrcR (M : Mem) (s : Rng) : Prop := ∃ (i : Nat) (h : Int), M s.b = some (.cells true [s.v, .int .i64 i, .int .u64 h] 3) ∧ Rd (M.del s.b) s.v (bytesV s.xs) ∧ s.xs.length ≤ 140737488355328 ∧ i ≤ s.xs.length
/-- What a draw changes: the source alone. -/
structure DrR (s : Rng) (M M' : Mem) : Prop where
  keep : ∀ D : Mem, D s.b = none → Sub D M → Sub D M'
  src : SrcR M' s
theorem DrR.refl {s : Rng} {M : Mem} (h : SrcR M s) : DrR s M M := ⟨fun _ _ h => h, h⟩
theorem DrR.trans {s : Rng} {A B C : Mem} (h : DrR s A B) (k : DrR s B C) : DrR s A C := ⟨fun D hD hs => k.keep D hD (h.keep D hD hs), k.src⟩
theorem SrcR.told {M : Mem} {s : Rng} (h : SrcR M s) : M s.b ≠ none := by
  obtain ⟨i, hh, hM, _⟩ := h
  rw [hM]; intro q; cases q
theorem del_mono {M N : Mem} (b : Nat) (hs : Sub M N) : Sub (M.del b) (N.del b) := by
  intro j B hj
  by_cases e : j = b
  · simp [Mem.del, e] at hj
  · simp only [Mem.del, if_neg e] at hj ⊢
    exact hs _ _ hj
theorem SrcR.sub {M N : Mem} {s : Rng} (h : SrcR M s) (hs : Sub M N) : SrcR N s := by
  obtain ⟨i, hh, hM, hv, hl, hi⟩ := h
  exact ⟨i, hh, hs _ _ hM, hv.sub (del_mono _ hs), hl, hi⟩
theorem DrR.sub {s : Rng} {M N : Mem} (h : SrcR M s) (hs : Sub M N) : DrR s M N := ⟨fun _ _ hD => hD.trans hs, h.sub hs⟩
theorem del_put_b (M : Mem) (b : Nat) (B : Blk) : (M.put b B).del b = M.del b := by
  funext j
  by_cases q : j = b
  · simp [Mem.del, q]
  · simp [Mem.del, q, put_ne _ _ q]
theorem SrcR.store {M : Mem} {s : Rng} (hv : Rd (M.del s.b) s.v (bytesV s.xs)) (hl : s.xs.length ≤ 140737488355328) {i : Nat} (hi : i ≤ s.xs.length) (h : Int) : DrR s M (M.put s.b (.cells true [s.v, .int .i64 i, .int .u64 h] 3)) := by
  refine ⟨fun D hD hs => ?_, i, h, put_same _ _ _, by rw [del_put_b]; exact hv, hl, hi⟩
  intro j B hj
  have : j ≠ s.b := by rintro rfl; rw [hD] at hj; cases hj
  rw [put_ne _ _ this]
  exact hs _ _ hj
theorem DrR.at {s : Rng} {M M' : Mem} (h : DrR s M M') {i : Nat} (hi : i ≠ s.b) {B : Blk} (hB : M i = some B) : M' i = some B := by
  refine h.keep (fun j => if j = i then some B else none) (if_neg (Ne.symm hi)) ?_ i B (if_pos rfl)
  intro j C hj
  dsimp only at hj
  by_cases e : j = i
  · subst e; rw [if_pos rfl] at hj; injection hj with hj; subst hj; exact hB
  · rw [if_neg e] at hj; cases hj
/-- A draw beside a slice of one's own. -/
theorem own_draw {s : Rng} {Mb M' N N2 : Mem} {v : Value} {xs : List Value} (o : Own Mb v xs M') (hs : SrcR Mb s) (hN : Sub M' N) (d : DrR s N N2) : ∃ Mb2 M2, Own Mb2 v xs M2 ∧ Sub M2 N2 ∧ DrR s Mb Mb2 := by
  obtain ⟨i, w, h2, _⟩ := d.src
  obtain ⟨i0, w0, h0, hv0, hl0, _⟩ := hs
  have hi : i ≤ s.xs.length := by
    obtain ⟨i', w', h2', _, _, hi'⟩ := d.src
    rw [h2] at h2'
    simp only [Option.some.injEq, Blk.cells.injEq, List.cons.injEq, Value.int.injEq, true_and, and_true] at h2'
    omega
  refine ⟨Mb.put s.b (.cells true [s.v, .int .i64 i, .int .u64 w] 3), M'.put s.b (.cells true [s.v, .int .i64 i, .int .u64 w] 3), o.other h0 _, ?_, SrcR.store hv0 hl0 hi w⟩
  intro j B hj
  by_cases e : j = s.b
  · subst e; rw [put_same] at hj; rw [h2]; exact hj
  · rw [put_ne _ _ e] at hj
    exact d.at e (hN _ _ hj)
theorem rd_fresh {M : Mem} {s : Rng} (h : SrcR M s) {b c n : Nat} {w : Bool} {xs : List Value} (hb : M b = none) (hn : xs.length = n) (hc : n ≤ c) : Rd ((M.put b (.cells w xs c)).del s.b) (.slice (some ⟨b, 0, none⟩) n c) xs := by
  have hne : b ≠ s.b := by rintro rfl; exact h.told hb
  refine (Rd.new (M := M.del s.b) (b := b) (c := c) (w := w) hn hc).sub ?_
  intro j B hj
  by_cases e : j = b
  · subst e
    rw [put_same] at hj
    simp only [Mem.del, if_neg hne]
    rw [put_same]; exact hj
  · rw [put_ne _ _ e] at hj
    by_cases q : j = s.b
    · simp [Mem.del, q] at hj
    · simp only [Mem.del, if_neg q] at hj ⊢
      rw [put_ne _ _ e]; exact hj
theorem Rd.dr {s : Rng} {M M' : Mem} {v : Value} {xs : List Value} (h : Rd (M.del s.b) v xs) (d : DrR s M M') : Rd (M'.del s.b) v xs := h.sub (sub_delM (d.keep _ (del_none _ _) (del_subM _ _)) (del_none _ _))
/-- The parts of a text between the bytes c that stand in its first i bytes, and where the next one begins. -/
def splN (l : List UInt8) (c : UInt8) : Nat → List (List UInt8) × Nat
  | 0 => ([], 0)
  | i + 1 => if l.getD i 0 = c then ((splN l c i).1 ++ [(l.take i).drop (splN l c i).2], i + 1) else splN l c i
def splL (l : List UInt8) (c : UInt8) : List (List UInt8) := (splN l c l.length).1 ++ [l.drop (splN l c l.length).2]
theorem splN_at (l : List UInt8) (c : UInt8) : ∀ i, (splN l c i).2 ≤ i ∧ (splN l c i).1.length ≤ i
  | 0 => ⟨Nat.le_refl 0, Nat.le_refl 0⟩
  | i + 1 => by
    have ih := splN_at l c i
    unfold splN
    split
    · rw [List.length_append, List.length_singleton]
      exact ⟨Nat.le_refl _, by omega⟩
    · exact ⟨by omega, by omega⟩
theorem splN_len (l : List UInt8) (c : UInt8) : ∀ i, ∀ w ∈ (splN l c i).1, w.length ≤ l.length
  | 0, w, h => by cases h
  | i + 1, w, h => by
    unfold splN at h
    split at h
    · rcases List.mem_append.1 h with h | h
      · exact splN_len l c i w h
      · rw [List.mem_singleton.1 h, List.length_drop, List.length_take]; omega
    · exact splN_len l c i w h
theorem splL_len (l : List UInt8) (c : UInt8) : 1 ≤ (splL l c).length ∧ (splL l c).length ≤ l.length + 1 ∧ ∀ w ∈ splL l c, w.length ≤ l.length := by
  unfold splL
  have h := splN_at l c l.length
  rw [List.length_append, List.length_singleton]
  refine ⟨by omega, by omega, fun w hw => ?_⟩
  rcases List.mem_append.1 hw with hw | hw
  · exact splN_len l c _ w hw
  · rw [List.mem_singleton.1 hw, List.length_drop]; omega
theorem split_does (l : List UInt8) (c : UInt8) (M : Mem) (R : Value → Mem → Prop) (hl : l.length ≤ 1099511627776) (h : ∀ v M', Own M v (strs (splL l c)) M' → R v M') : Does Tryd.prog 15 [str l, .int .u8 c.toNat] M R := by
  refine does_fn tab_ok Tryd.func15 rfl (by kernel_rfl) (by kernel_rfl) Tryd.ntmps15 Tryd.results15 rfl ?_
  simp (disch := omega)
  intro b0 hb0
  simp (disch := omega)
  refine loop_to tab_ok [5, 6, 7, 9, 10, 11, 12, 13, 14, 15, 16, 17, 18, 19, 20, 21, 22, 23, 24, 25, 26, 27, 28] (fun x : Nat × Value => [(7, .int .i64 x.1), (6, .int .i64 ((splN l c x.1).2 : Nat)), (5, x.2)]) (fun x M' => x.1 ≤ l.length ∧ Own M x.2 (strs (splN l c x.1).1) M') (fun x => l.length - x.1) (0, .slice (some ⟨b0, 0, none⟩) 0 0) (by kernel_rfl) (by simp (disch := omega); rfl) ⟨Nat.zero_le _, Own.new hb0 rfl (Nat.le_refl 0)⟩ ?_
  rintro ⟨i, v⟩ M1 g ⟨hi, ho⟩
  simp only at hi ho
  have hat := splN_at l c i
  by_cases hlt : i < l.length
  · have hx : l[i]? = some l[i] := List.getElem?_eq_getElem hlt
    have e : splN l c (i + 1) = if l.getD i 0 = c then ((splN l c i).1 ++ [(l.take i).drop (splN l c i).2], i + 1) else splN l c i := rfl
    have hd : l.getD i 0 = l[i] := by rw [List.getD_eq_getElem?_getD, hx]; rfl
    rw [hd] at e
    have hu := l[i].toNat_lt
    have hc := c.toNat_lt
    generalize l[i] = u at *
    generalize splN l c i = P at *
    obtain ⟨P1, P2⟩ := P
    simp only at hat ho e
    have hq : ((u.toNat : Int) == (c.toNat : Int)) = decide (u = c) := by
      rw [Bool.eq_iff_iff, beq_iff_eq, decide_eq_true_eq]
      constructor
      · intro h; exact UInt8.toNat_inj.1 (by omega)
      · rintro rfl; rfl
    by_cases huc : u = c
    · rw [if_pos huc] at e
      rw [decide_eq_true huc] at hq
      simp (disch := omega) [hx, at_u8' hx, hq]
      intro b' hb'
      simp (disch := omega)
      refine app_own ho ((Sub.refl _).put hb' _) (by simp (disch := omega); rfl) rfl rfl (by omega) (by simp (disch := omega)) (by simp (disch := omega); omega) ?_
      intro v' M'' N'' ho' hs'
      simp (disch := omega)
      refine Rnd.mk'' M'' (i + 1, v') hs' (by simp only; omega) (by (repeat (first | exact km | refine kp rfl ?_ | refine km' rfl ?_))) (by rw [e]; simp (disch := omega)) ⟨by simp only; omega, ?_⟩
      simp only
      rw [e, ← strs_snoc]
      exact ho'
    · rw [if_neg huc] at e
      rw [decide_eq_false huc] at hq
      simp (disch := omega) [hx, at_u8' hx, hq]
      refine Rnd.mk' (i + 1, v) (by simp only; omega) (by (repeat (first | exact km | refine kp rfl ?_ | refine km' rfl ?_))) (by rw [e]; simp (disch := omega)) ⟨by simp only; omega, ?_⟩
      simp only
      rw [e]; exact ho
  · have hi' : i = l.length := by omega
    subst hi'
    have hL : splL l c = (splN l c l.length).1 ++ [l.drop (splN l c l.length).2] := rfl
    generalize splN l c l.length = P at *
    obtain ⟨P1, P2⟩ := P
    simp only at hat ho hL
    simp (disch := omega)
    intro b' hb'
    simp (disch := omega)
    refine app_own ho ((Sub.refl _).put hb' _) (by simp (disch := omega); rfl) rfl rfl (by omega) (by simp (disch := omega)) (by simp (disch := omega); omega) ?_
    intro v' M'' N'' ho' hs'
    simp (disch := omega)
    refine ret_sub hs' (h v' _ ?_)
    rw [hL, ← strs_snoc]
    exact ho'
/-- A slice of one's own stands in a memory of its own. -/
theorem own_alone {Mb N : Mem} {v : Value} {xs : List Value} (o : Own Mb v xs N) : ∃ D : Mem, Rd D v xs ∧ Sub D N ∧ ∀ i, Mb i ≠ none → D i = none := by
  rcases o with ⟨rfl, rfl, rfl⟩ | ⟨b, c, rfl, hb, hc, rfl⟩
  · exact ⟨emptyM, .inl ⟨none, 0, rfl, rfl⟩, empty_sub _, fun _ _ => rfl⟩
  · refine ⟨emptyM.put b (.cells true xs c), Rd.new rfl hc, ?_, ?_⟩
    · intro i B hi
      by_cases e : i = b
      · subst e; rw [put_same] at hi ⊢; exact hi
      · rw [put_ne _ _ e] at hi; cases hi
    · intro i hi
      have e : i ≠ b := by rintro rfl; exact hi hb
      rw [put_ne _ _ e]; rfl
theorem DrR.keepT {s : Rng} {M N : Mem} (d : DrR s M N) {i : Nat} (h : M i ≠ none) : N i ≠ none := by
  by_cases e : i = s.b
  · rw [e]; exact d.src.told
  · cases hM : M i with
    | none => exact absurd hM h
    | some B => rw [d.at e hM]; intro q; cases q
theorem DrR.put {s : Rng} {M N : Mem} {b2 : Nat} (hs : SrcR M s) (d : DrR s M N) (hb : M b2 = none) (B : Blk) : DrR s M (N.put b2 B) := by
  have hne : b2 ≠ s.b := by rintro rfl; exact hs.told hb
  have hk : ∀ D : Mem, D s.b = none → Sub D M → Sub D (N.put b2 B) := by
    intro D hD hDM i C hi
    have e : i ≠ b2 := by
      rintro rfl
      have := hDM _ _ hi
      rw [hb] at this
      cases this
    rw [put_ne _ _ e]
    exact d.keep D hD hDM i C hi
  refine ⟨hk, ?_⟩
  obtain ⟨i, w, h1, h2, h3, h4⟩ := d.src
  obtain ⟨_, _, _, hv, _, _⟩ := hs
  refine ⟨i, w, by rw [put_ne _ _ (Ne.symm hne)]; exact h1, hv.sub ?_, h3, h4⟩
  exact sub_delM (hk _ (del_none _ _) (del_subM _ _)) (del_none _ _)
def texts9 : List (List UInt8) := [[97, 98, 44, 97], [97, 98, 44, 98, 97], [97, 98, 44, 97, 97], [97, 98, 99, 44, 97, 99, 44, 98], [97, 98, 44, 97, 99, 44, 97], [97, 44, 97, 98], [97, 98, 99, 97, 98, 44, 97, 99, 97, 98, 99, 98, 44, 97, 99, 98, 99, 97, 99, 98], [97, 98, 99, 44, 98, 99, 97, 44, 99, 97, 98], [97, 98, 44, 99, 44]]
theorem texts9_len : texts9.length = 9 := nr rfl
theorem texts9_in : ∀ l ∈ texts9, l.length ≤ 20 := by decide
theorem texts9_eq : [str [97, 98, 44, 97], str [97, 98, 44, 98, 97], str [97, 98, 44, 97, 97], str [97, 98, 99, 44, 97, 99, 44, 98], str [97, 98, 44, 97, 99, 44, 97], str [97, 44, 97, 98], str [97, 98, 99, 97, 98, 44, 97, 99, 97, 98, 99, 98, 44, 97, 99, 98, 99, 97, 99, 98], str [97, 98, 99, 44, 98, 99, 97, 44, 99, 97, 98], str [97, 98, 44, 99, 44]] = strs texts9 := nr rfl
def MorOk (ws : List (List UInt8)) : Prop := ws.length ≤ 100 ∧ ∀ w ∈ ws, w.length ≤ 100
end Go.Proofs.YticejlplbibegaaDoor

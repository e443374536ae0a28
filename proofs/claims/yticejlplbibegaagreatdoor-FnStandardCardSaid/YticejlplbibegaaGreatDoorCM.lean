/- Merged: M13 C47 C42 C57. -/
import Derived.Test.YticejlplbibegaaGreatDoorCI
import Derived.Test.YticejlplbibegaaGreatDoorM4
import Derived.Test.YticejlplbibegaaGreatDoorC26
/-! Plain law: words that have patterns; squares; makers of squares. -/
namespace Go.Proofs.YticejlplbibegaaGreatDoor

/-- Does a word begin with what fits a pattern? -/
def begB (u p : List UInt8) : Bool := (sols u p V0 0).any fun _ => true
theorem begB_iff {u p : List UInt8} (hp : ∀ c ∈ p, vIdx c < 3) : begB u p = true ↔ ∃ V, Goes p V0 V ∧ subV p V <+: u := by
  unfold begB
  rw [List.any_eq_true]
  constructor
  · rintro ⟨⟨V, t⟩, hm, _⟩
    obtain ⟨h1, _, h3⟩ := (sols0 hp).1 hm
    exact ⟨V, h1, h3⟩
  · rintro ⟨V, h1, h2⟩
    exact ⟨(V, (subV p V).length), (sols0 hp).2 ⟨h1, rfl, h2⟩, rfl⟩
def hasTo (w p : List UInt8) (n : Nat) : Bool := (List.range n).any fun i => begB (w.drop i) p
def hasB (w p : List UInt8) : Bool := hasTo w p w.length
theorem hasTo_succ (w p : List UInt8) (n : Nat) : hasTo w p (n + 1) = (hasTo w p n || begB (w.drop n) p) := by simp [hasTo, List.range_succ]
theorem hasTo_yes {w p : List UInt8} {n m : Nat} (h : n < m) (hh : begB (w.drop n) p = true) : hasTo w p m = true := by
  unfold hasTo
  rw [List.any_eq_true]
  exact ⟨n, List.mem_range.2 h, hh⟩
theorem subV_pos {p : List UInt8} {V : Vals} (h : Goes p V0 V) (hp : p ≠ []) : 1 ≤ (subV p V).length := by
  cases p with
  | nil => exact absurd rfl hp
  | cons c p =>
    have := (h.new (vIdx c) (v0_get _)).2 ((occ_cons _ _ _).2 (.inl rfl))
    rw [subV_cons, List.length_append]
    cases hq : V.getD (vIdx c) [] with
    | nil => exact absurd hq this
    | cons x l => simp; omega
theorem hasB_iff {w p : List UInt8} (hp : ∀ c ∈ p, vIdx c < 3) (hp1 : p ≠ []) : hasB w p = true ↔ ∃ i V, Goes p V0 V ∧ subV p V <+: w.drop i := by
  unfold hasB hasTo
  rw [List.any_eq_true]
  constructor
  · rintro ⟨i, _, h⟩
    obtain ⟨V, h1, h2⟩ := (begB_iff hp).1 h
    exact ⟨i, V, h1, h2⟩
  · rintro ⟨i, V, h1, h2⟩
    have := subV_pos h1 hp1
    have hl := h2.length_le
    rw [List.length_drop] at hl
    exact ⟨i, List.mem_range.2 (by omega), (begB_iff hp).2 ⟨V, h1, h2⟩⟩
/-- The reference's test. -/
def hasST (w p : List UInt8) (n : Nat) : Bool := (List.range n).any fun m => endsP (w.take (p.length + m)) p
def hasS (w p : List UInt8) : Bool := hasST w p (w.length + 1 - p.length)
theorem hasST_succ (w p : List UInt8) (n : Nat) : hasST w p (n + 1) = (hasST w p n || endsP (w.take (p.length + n)) p) := by simp [hasST, List.range_succ]
theorem hasST_yes {w p : List UInt8} {n m : Nat} (h : n < m) (hh : endsP (w.take (p.length + n)) p = true) : hasST w p m = true := by
  unfold hasST
  rw [List.any_eq_true]
  exact ⟨n, List.mem_range.2 h, hh⟩
theorem has_same {w p : List UInt8} (hp : ∀ c ∈ p, vIdx c < 3) (hp1 : p ≠ []) : hasS w p = hasB w p := by
  rw [Bool.eq_iff_iff, hasB_iff hp hp1]
  unfold hasS hasST endsP
  rw [List.any_eq_true]
  constructor
  · rintro ⟨m, hm, h⟩
    obtain ⟨i, hi, h⟩ := List.any_eq_true.1 h
    obtain ⟨V, hf⟩ := (fitsB_iff hp).1 h
    refine ⟨i, V, hf.goes, ?_⟩
    rw [hf.word, List.drop_take]
    exact List.take_prefix _ _
  · rintro ⟨i, V, h1, h2⟩
    have hpos := subV_pos h1 hp1
    have hl := h2.length_le
    rw [List.length_drop] at hl
    have hfit : Fit p ((w.take (i + (subV p V).length)).drop i) V := by
      refine ⟨h1, ?_⟩
      rw [List.drop_take, show i + (subV p V).length - i = (subV p V).length by omega]
      exact (take_prefix h2).symm
    have hfb := (fitsB_iff hp).2 ⟨V, hfit⟩
    have hlen := fitB_len _ _ _ hfb
    rw [List.length_drop, List.length_take] at hlen
    refine ⟨i + (subV p V).length - p.length, List.mem_range.2 (by omega), ?_⟩
    rw [show p.length + (i + (subV p V).length - p.length) = i + (subV p V).length by omega, List.any_eq_true]
    exact ⟨i, List.mem_range.2 (by rw [List.length_take]; omega), hfb⟩
/-- The pattern of squares. -/
theorem has_sq (w : List UInt8) : hasB w [65, 65] = sqIn w := by
  have hq3 : ∀ c ∈ ([65, 65] : List UInt8), vIdx c < 3 := by decide
  rw [Bool.eq_iff_iff, hasB_iff hq3 (by simp)]
  have hsub : ∀ V : Vals, subV [65, 65] V = V.getD 0 [] ++ V.getD 0 [] := by
    intro V
    rw [subV_cons, subV_cons, subV_nil, List.append_nil]; rfl
  unfold sqIn
  rw [List.any_eq_true]
  constructor
  · rintro ⟨i, V, h1, h2⟩
    have hn := (h1.new 0 (v0_get _)).2 ((occ_cons _ _ _).2 (.inl rfl))
    rw [hsub] at h2
    generalize V.getD 0 [] = x at *
    have hx : 1 ≤ x.length := by
      cases x with
      | nil => exact absurd rfl hn
      | cons a l => simp
    have hl := h2.length_le
    rw [List.length_append, List.length_drop] at hl
    refine ⟨i, List.mem_range.2 (by omega), List.any_eq_true.2 ⟨x.length - 1, List.mem_range.2 (by omega), ?_⟩⟩
    rw [show x.length - 1 + 1 = x.length by omega]
    have e : seg w i (2 * x.length) = x ++ x := by
      unfold seg
      rw [List.drop_take, show i + 2 * x.length - i = (x ++ x).length by rw [List.length_append]; omega]
      exact take_prefix h2
    unfold hp
    rw [e, List.length_append, show x.length + x.length - x.length = x.length by omega, List.drop_left, List.take_left]
    exact beq_self_eq_true _
  · rintro ⟨i, hi, h⟩
    obtain ⟨m, hm, h⟩ := List.any_eq_true.1 h
    have h1 := List.mem_range.1 hi
    have h3 := List.mem_range.1 hm
    have hle : i + 2 * (m + 1) ≤ w.length := by omega
    unfold hp at h
    rw [beq_iff_eq, seg_len (by omega)] at h
    have hseg : seg w i (2 * (m + 1)) = (w.drop i).take (2 * (m + 1)) := by
      unfold seg
      rw [List.drop_take, show i + 2 * (m + 1) - i = 2 * (m + 1) by omega]
    have hsl := seg_len hle
    rw [show 2 * (m + 1) - (m + 1) = m + 1 by omega] at h
    obtain ⟨x, hx⟩ : ∃ x, x = (seg w i (2 * (m + 1))).take (m + 1) := ⟨_, rfl⟩
    have hxl : x.length = m + 1 := by rw [hx, List.length_take]; omega
    have hxx : x ++ x = seg w i (2 * (m + 1)) := by
      have := List.take_append_drop (m + 1) (seg w i (2 * (m + 1)))
      rw [h, ← hx] at this
      exact this
    refine ⟨i, [x, [], []], ⟨rfl, ?_, ?_⟩, ?_⟩
    · intro k hk; exact absurd (v0_get k) hk
    · intro k _
      rw [occ_cons, occ_cons]
      have e65 : vIdx 65 = 0 := rfl
      rw [e65]
      match k with
      | 0 =>
        constructor
        · intro _; exact .inl rfl
        · intro _ e
          have e : x = [] := e
          rw [e] at hxl; simp at hxl
      | 1 => exact ⟨fun h => absurd rfl h, fun h => by rcases h with h | h | h; cases h; cases h; exact absurd h (occ_nil _)⟩
      | 2 => exact ⟨fun h => absurd rfl h, fun h => by rcases h with h | h | h; cases h; cases h; exact absurd h (occ_nil _)⟩
      | k + 3 => exact ⟨fun h => absurd rfl h, fun h => by rcases h with h | h | h; cases h; cases h; exact absurd h (occ_nil _)⟩
    · rw [hsub]
      show x ++ x <+: _
      rw [hxx, hseg]
      exact List.take_prefix _ _
/-- What grows without squares at its ends has no square. -/
theorem grL_free (k : Nat) : ∀ (d : Nat) (w u : List UInt8), (∀ n, n ≤ w.length → endsSq (w.take n) = false) → u ∈ grL k d w → ∀ n, n ≤ u.length → endsSq (u.take n) = false
  | 0, w, u, hw, h => by
    unfold grL at h
    rw [List.mem_singleton.1 h]
    exact hw
  | d + 1, w, u, hw, h => by
    unfold grL at h
    obtain ⟨i, hi, h⟩ := List.mem_flatMap.1 h
    cases he : endsSq (w ++ [ltr i])
    · rw [he, if_neg (by decide)] at h
      refine grL_free k d _ u (fun n hn => ?_) h
      rw [List.length_append, List.length_singleton] at hn
      by_cases e : n = w.length + 1
      · rw [List.take_of_length_le (by rw [List.length_append, List.length_singleton]; omega)]; exact he
      · rw [List.take_append_of_le_length (by omega)]; exact hw n (by omega)
    · rw [he, if_pos rfl] at h; cases h
theorem grL_sq {k d : Nat} {u : List UInt8} (h : u ∈ grL k d []) : sqIn u = false := by
  rw [sqIn_ends, List.any_eq_false]
  intro n hn
  have := List.mem_range.1 hn
  rw [grL_free k d [] u (fun n hn => by simp at hn; subst hn; rfl) h n (by omega)]
  simp
theorem makeTo_is {ws : List (List UInt8)} {n : Nat} {u : List UInt8} (h : makeTo ws n = some u) : u.length < n ∧ sqIn u = false ∧ sqIn (imgOf ws u) = true ∧ ∀ c ∈ u, ∃ i, i < ws.length ∧ c = ltr i := by
  unfold makeTo at h
  obtain ⟨m, hm, h⟩ := List.exists_of_findSome?_eq_some h
  have hm := List.mem_range.1 hm
  unfold makerF at h
  have h1 := List.mem_of_find?_eq_some h
  have h2 := List.find?_some h
  obtain ⟨h3, h4⟩ := grL_word ws.length m [] u h1
  refine ⟨by rw [h3]; simpa using hm, grL_sq h1, h2, fun c hc => ?_⟩
  rcases h4 c hc with h5 | h5
  · cases h5
  · exact h5
end Go.Proofs.YticejlplbibegaaGreatDoor
/-! Contracts: words that have patterns, of the program. -/
namespace Go.Proofs.YticejlplbibegaaGreatDoor
open Go
set_option linter.unusedSimpArgs false
set_option linter.unusedVariables false

theorem pat_idx {p : List UInt8} (h : isPat p = true) : (∀ c ∈ p, vIdx c < 3) ∧ p ≠ [] := by
  obtain ⟨hp1, hp8, hpv⟩ := isPat_in h
  refine ⟨fun c hc => ?_, by intro e; rw [e] at hp1; simp at hp1⟩
  have := isV_range (List.all_eq_true.1 hpv c hc)
  unfold vIdx; omega
def patC (w p : List UInt8) : Int := if isWord w && isPat p then 0 else 1
end Go.Proofs.YticejlplbibegaaGreatDoor
/-! Contracts: first places of patterns, of the reference, and the law. -/
namespace Go.Proofs.YticejlplbibegaaGreatDoor
open Go
set_option linter.unusedSimpArgs false
set_option linter.unusedVariables false

theorem gvF_snoc {w : List UInt8} {ls : List Nat} {p : List UInt8} {V : Vals} {t i : Nat} (hi : i < p.length) : gvF w ls (p.take (i + 1)) V t = gvS w ls (gvF w ls (p.take i) V t) p[i] := by
  unfold gvF
  rw [take_snoc p hi, List.foldl_append]; rfl
theorem gvF_dead {w : List UInt8} {ls : List Nat} {p : List UInt8} {V : Vals} {t i : Nat} (h : gvF w ls (p.take i) V t = none) : gvF w ls p V t = none := by
  have e : gvF w ls p V t = (p.drop i).foldl (gvS w ls) (gvF w ls (p.take i) V t) := by
    unfold gvF
    rw [← List.foldl_append, List.take_append_drop]
  rw [e, h, gv_none]
theorem fill_snoc {V : Vals} {j : Nat} (hj : j < V.length) : fillV (V.take (j + 1)) = fillV (V.take j) ++ if V[j].isEmpty then [] else [V[j]] := by
  unfold fillV
  rw [take_snoc V hj, List.filter_append]
  cases h : V[j].isEmpty <;> simp [h]
theorem getD_at {V : Vals} {j : Nat} (hj : j < V.length) : V.getD j [] = V[j] := by
  rw [List.getD_eq_getElem?_getD, List.getElem?_eq_getElem hj]; rfl
theorem natsV_at {ls : List Nat} {k : Nat} (hk : k < ls.length) : (natsV ls)[k]? = some (.int .i64 (ls.getD k 0 : Nat)) := by
  rw [natsV_get, List.getElem?_eq_getElem hk, List.getD_eq_getElem?_getD, List.getElem?_eq_getElem hk]; rfl
def Low (ls : List Nat) : Prop := ∀ k, ls.getD k 0 ≤ 60
theorem sumV_snoc {p : List UInt8} {ls : List Nat} {i : Nat} (hi : i < p.length) : sumV (p.take (i + 1)) ls = sumV (p.take i) ls + ls.getD (vIdx p[i]) 0 := by
  unfold sumV
  rw [take_snoc p hi, List.map_append, List.sum_append]
  simp
theorem cntV_snoc {p : List UInt8} {k i : Nat} (hi : i < p.length) : cntV (p.take (i + 1)) k = cntV (p.take i) k + if vIdx p[i] = k then 1 else 0 := by
  unfold cntV
  rw [take_snoc p hi, List.countP_append, List.countP_singleton]
  simp
theorem sumV_le {ls : List Nat} (h : Low ls) : ∀ p : List UInt8, sumV p ls ≤ 60 * p.length
  | [] => by simp [sumV]
  | c :: p => by
    have ih := sumV_le h p
    have h1 := h (vIdx c)
    have e : sumV (c :: p) ls = ls.getD (vIdx c) 0 + sumV p ls := by simp [sumV]
    rw [e, List.length_cons]
    omega
theorem cntV_le (p : List UInt8) (k : Nat) : cntV p k ≤ p.length := List.countP_le_length
theorem low_snoc {ls : List Nat} (h : Low ls) {n : Nat} (hn : n ≤ 60) : Low (ls ++ [n]) := by
  intro k
  rw [List.getD_eq_getElem?_getD]
  by_cases hk : k < ls.length
  · rw [List.getElem?_append_left hk, ← List.getD_eq_getElem?_getD]; exact h k
  · rw [List.getElem?_append_right (by omega)]
    cases hq : ([n] : List Nat)[k - ls.length]? with
    | none => simp
    | some x =>
      have := List.mem_of_getElem? hq
      rw [List.mem_singleton.1 this]; exact hn
theorem low_nil : Low [] := fun k => by simp
theorem natsV_flat (ls : List Nat) : ∀ v ∈ natsV ls, flatV v = true := by
  intro v hv
  obtain ⟨n, _, rfl⟩ := List.mem_map.1 hv
  rfl
theorem getD_over {ls : List Nat} {k : Nat} (h : ls.length ≤ k) : ls.getD k 0 = 0 := by
  rw [List.getD_eq_getElem?_getD, List.getElem?_eq_none h]; rfl
def srchTo (w p : List UInt8) (d : Nat) (ls : List Nat) (m : Nat) : Option Vals := (List.range m).findSome? fun n => srch w p d (ls ++ [n + 1])
theorem srchTo_succ {w p : List UInt8} {d m : Nat} {ls : List Nat} (h : srchTo w p d ls m = none) : srchTo w p d ls (m + 1) = srch w p d (ls ++ [m + 1]) := by
  unfold srchTo at *
  rw [List.range_succ, List.findSome?_append, h, Option.none_or]
  cases hf : srch w p d (ls ++ [m + 1]) <;> simp [List.findSome?, hf]
theorem srchTo_hit {w p : List UInt8} {d m n : Nat} {ls : List Nat} {V : Vals} (hm : m < n) (h0 : srchTo w p d ls m = none) (h : srch w p d (ls ++ [m + 1]) = some V) : srchTo w p d ls n = some V := by
  have h1 : srchTo w p d ls (m + 1) = some V := by rw [srchTo_succ h0, h]
  obtain ⟨e, rfl⟩ : ∃ e, n = m + 1 + e := ⟨n - m - 1, by omega⟩
  unfold srchTo at *
  rw [List.range_add, List.findSome?_append, h1, Option.some_or]
theorem srcOf_sub {M N : Mem} {v : Value} {l : List Value} (h : srcOf M v = some l) (hs : Sub M N) : srcOf N v = some l := by
  unfold srcOf at *
  split at h
  · exact h
  · rename_i b o n c
    show N.sub? b o n = some l
    unfold Mem.sub? at *
    split at h
    · rename_i hb; rw [hs _ _ hb]; exact h
    · cases h
  · exact h
  · cases h
theorem natL_snoc (ls : List Nat) (n : Nat) : natsV ls ++ [.int .i64 (n : Nat)] = natsV (ls ++ [n]) := by simp [natsV]
theorem plL_len (w p : List UInt8) : (plL w p).length ≤ 3 := by
  unfold plL
  split
  · rename_i hb
    cases hq : placeF w p with
    | none => simp
    | some x =>
      simp only
      unfold placeF placeTo at hq
      obtain ⟨i, _, hq⟩ := List.exists_of_findSome?_eq_some hq
      unfold placeAt at hq
      split at hq
      · injection hq with hq
        subst hq
        rw [Bool.and_eq_true] at hb
        obtain ⟨hp1, hp8, hpv⟩ := isPat_in hb.2
        have hpi : ∀ c ∈ p, vIdx c < 3 := fun c hc => by
          have := isV_range (List.all_eq_true.1 hpv c hc)
          unfold vIdx; omega
        rename_i h0
        rcases best_is (u := w.drop i) hpi (by intro e; rw [e] at hp1; simp at hp1) with ⟨hz, _⟩ | ⟨_, _, _, _, hs⟩
        · omega
        · have ok := srch_is ((w.drop i).take (bestF (sols (w.drop i) p V0 0)).1) p hpi 3 [] rfl (fun k hk => by simp at hk)
          rw [hs] at ok
          have hl3 := ok.1.len
          unfold fillV
          exact Nat.le_trans (List.length_filter_le _ _) (Nat.le_of_eq hl3)
      · cases hq
  · simp
end Go.Proofs.YticejlplbibegaaGreatDoor
/-! Contracts: words that have patterns, of the reference; words that fit; factors at places; square free words. -/
namespace Go.Proofs.YticejlplbibegaaGreatDoor
open Go
set_option linter.unusedSimpArgs false
set_option linter.unusedVariables false

theorem isPat_len {p : List UInt8} (h : isPat p = true) : 1 ≤ p.length ∧ p.length ≤ 8 := ⟨(isPat_in h).1, (isPat_in h).2.1⟩
theorem pat_lt {p : List UInt8} (h : isPat p = true) : ∀ c ∈ p, vIdx c < 3 := fun c hc => by
  have := isV_range (List.all_eq_true.1 (isPat_in h).2.2 c hc)
  unfold vIdx; omega
theorem words9_does (v v' : Value) (xs ys : List (List UInt8)) (M : Mem) (R : Value → Mem → Prop) (hx : Rd M v (strs xs)) (hy : Rd M v' (strs ys)) (hl : xs.length ≤ 1099511627776) (hl' : ys.length ≤ 1099511627776)
    (h : R (.bool (xs == ys)) M) : Does Tryz.prog 16 [v, v'] M R := by
  refine does_fn tab_ok Tryz.func16 rfl (by kernel_rfl) (by kernel_rfl) Tryz.ntmps16 Tryz.results16 rfl ?_
  obtain ⟨a, c, rfl, ha⟩ := hx.opened
  obtain ⟨a', c', rfl, ha'⟩ := hy.opened
  rw [strs_length] at ha ha' ⊢
  rw [strs_length]
  by_cases hne : xs.length = ys.length
  · simp (disch := omega) [hne]
    refine loop_to tab_ok [4, 5, 11, 12, 13, 14, 15, 16, 17, 18, 19, 20, 21, 22, 23, 24, 25] (fun i : Nat => [(5, .int .i64 i)]) (fun i M' => M' = M ∧ i ≤ xs.length ∧ xs.take i = ys.take i) (fun i => xs.length - i) 0 (by kernel_rfl) (by simp (disch := omega)) ⟨rfl, by omega, rfl⟩ ?_
    rintro i M' g ⟨rfl, hi, he⟩
    by_cases hlt : i < xs.length
    · rcases ha with h0 | ⟨b, o, rfl, hs⟩
      · omega
      rcases ha' with h0 | ⟨b', o', rfl, hs'⟩
      · omega
      have hlt' : i < ys.length := by omega
      have hg := hs i hlt
      have hg' := hs' i hlt'
      have hx : xs[i]? = some xs[i] := List.getElem?_eq_getElem hlt
      have hy : ys[i]? = some ys[i] := List.getElem?_eq_getElem hlt'
      simp (disch := omega) [hne]
      refine draw_to tab_ok (by kernel_rfl) (by kernel_rfl) (by rfl) ?_
      simp (disch := omega) [hg, hg', hx, hy]
      by_cases hq : xs[i] = ys[i]
      · have hq' : (xs[i] == ys[i]) = true := by rw [hq]; exact beq_self_eq_true _
        simp (disch := omega) [hq']
        refine Rnd.mk' (i + 1) (by omega) (by (repeat (first | exact km | refine kp rfl ?_ | refine km' rfl ?_))) (by simp (disch := omega)) ⟨rfl, by omega, ?_⟩
        rw [take_snoc xs hlt, take_snoc ys hlt', he, hq]
      · have hq' : (xs[i] == ys[i]) = false := beq_eq_false_iff_ne.2 hq
        simp (disch := omega) [hq']
        refine ret_of ?_
        have : (xs == ys) = false := by
          rw [beq_eq_false_iff_ne]; rintro rfl; exact hq rfl
        rw [this] at h; exact h
    · have hi' : i = xs.length := by omega
      subst hi'
      simp (disch := omega) [hne]
      refine ret_of ?_
      have : xs = ys := take_beq hne he
      subst this
      simpa using h
  · simp (disch := omega) [hne]
    refine ret_of ?_
    have : (xs == ys) = false := by
      rw [beq_eq_false_iff_ne]; rintro rfl; exact hne rfl
    rw [this] at h; exact h
end Go.Proofs.YticejlplbibegaaGreatDoor

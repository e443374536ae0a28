/- Merged: C1 C2 C3 C4 C5. -/
import Derived.Test.YthpcojnpiggaiaaGreatTab
/-! Contracts: small functions, tests of all elements of a list, words and their code. -/
namespace Go.Proofs.YthpcojnpiggaiaaGreat
open Go
set_option linter.unusedSimpArgs false
set_option linter.unusedVariables false

/-- A slice that reads as a list of cells. -/
def Rd (M : Mem) (v : Value) (xs : List Value) : Prop :=
  (∃ a c, v = .slice a 0 c ∧ xs = []) ∨ ∃ b o c, v = .slice (some ⟨b, o, none⟩) xs.length c ∧ M.sub? b o xs.length = some xs ∧ xs.length ≤ c
theorem sub_get {M : Mem} {b o : Nat} {xs : List Value} (h : M.sub? b o xs.length = some xs) {i : Nat} {x : Value} (hx : xs[i]? = some x) : M.get? b (o + i) = some x := by
  unfold Mem.sub? at h
  unfold Mem.get?
  split at h
  · rename_i own ys tot hb
    split at h
    · rename_i hle
      injection h with h
      have hi : i < xs.length := by
        rcases Nat.lt_or_ge i xs.length with h | h
        · exact h
        · rw [List.getElem?_eq_none h] at hx; cases hx
      rw [← h, List.getElem?_take_of_lt (by rw [← h] at hi ⊢; rw [List.length_take] at hi ⊢; omega), List.getElem?_drop] at hx
      first | exact hx | (simp only [hb]; exact hx)
    · cases h
  · cases h
theorem Rd.sub {M N : Mem} {v : Value} {xs : List Value} (h : Rd M v xs) (hs : Sub M N) : Rd N v xs := by
  rcases h with h | ⟨b, o, c, h1, h2, h3⟩
  · exact .inl h
  · refine .inr ⟨b, o, c, h1, ?_, h3⟩
    unfold Mem.sub? at *
    split at h2
    · rename_i hb; rw [hs _ _ hb]; exact h2
    · cases h2
theorem Rd.put {M : Mem} {v : Value} {xs : List Value} (h : Rd M v xs) {b : Nat} (hb : M b = none) (B : Blk) : Rd (M.put b B) v xs := h.sub ((Sub.refl M).put hb B)
theorem Rd.new {M : Mem} {b c n : Nat} {w : Bool} {xs : List Value} (hn : xs.length = n) (hc : n ≤ c) : Rd (M.put b (.cells w xs c)) (.slice (some ⟨b, 0, none⟩) n c) xs := by
  subst hn
  exact .inr ⟨b, 0, c, rfl, by simp [Mem.sub?, put_same], hc⟩
/-- A slice of its own: nil, or all of a new block. -/
def Own (M : Mem) (v : Value) (xs : List Value) (M' : Mem) : Prop :=
  (v = .slice none 0 0 ∧ xs = [] ∧ M' = M) ∨ ∃ b c, v = .slice (some ⟨b, 0, none⟩) xs.length c ∧ M b = none ∧ xs.length ≤ c ∧ M' = M.put b (.cells true xs c)
theorem Own.nil (M : Mem) : Own M (.slice none 0 0) [] M := .inl ⟨rfl, rfl, rfl⟩
theorem Own.new {M : Mem} {b c n : Nat} {xs : List Value} (hb : M b = none) (hn : xs.length = n) (hc : n ≤ c) : Own M (.slice (some ⟨b, 0, none⟩) n c) xs (M.put b (.cells true xs c)) := by
  subst hn; exact .inr ⟨b, c, rfl, hb, hc, rfl⟩
theorem Own.sub {M M' : Mem} {v : Value} {xs : List Value} (h : Own M v xs M') : Sub M M' := by
  rcases h with ⟨_, _, rfl⟩ | ⟨b, c, _, hb, _, rfl⟩
  · exact Sub.refl _
  · exact (Sub.refl M).put hb _
theorem Own.rd {M M' : Mem} {v : Value} {xs : List Value} (h : Own M v xs M') : Rd M' v xs := by
  rcases h with ⟨h1, h2, rfl⟩ | ⟨b, c, rfl, hb, hc, rfl⟩
  · exact .inl ⟨none, 0, h1, h2⟩
  · exact Rd.new rfl hc
def ints (zs : List Int) : List Value := zs.map (Value.int .i64)
def strs (ws : List (List UInt8)) : List Value := ws.map str
@[simp] theorem ints_length (zs : List Int) : (ints zs).length = zs.length := by simp [ints]
@[simp] theorem strs_length (ws : List (List UInt8)) : (strs ws).length = ws.length := by simp [strs]
@[simp] theorem ints_nil : ints [] = [] := nr rfl
@[simp] theorem strs_nil : strs [] = [] := nr rfl
theorem ints_cons (z : Int) (zs : List Int) : ints (z :: zs) = .int .i64 z :: ints zs := rfl
theorem strs_cons (z : List UInt8) (zs : List (List UInt8)) : strs (z :: zs) = str z :: strs zs := rfl
@[simp] theorem ints_get {zs : List Int} {i : Nat} : (ints zs)[i]? = (zs[i]?).map (Value.int .i64) := by simp [ints]
@[simp] theorem strs_get {zs : List (List UInt8)} {i : Nat} : (strs zs)[i]? = (zs[i]?).map str := by simp [strs]
@[simp] theorem bytesV_get {l : List UInt8} {i : Nat} : (bytesV l)[i]? = (l[i]?).map fun u => Value.int .u8 u.toNat := by simp [bytesV]
theorem ints_set (zs : List Int) (i : Nat) (z : Int) : (ints zs).set i (.int .i64 z) = ints (zs.set i z) := by simp [ints, List.map_set]
theorem strs_set (zs : List (List UInt8)) (i : Nat) (z : List UInt8) : (strs zs).set i (str z) = strs (zs.set i z) := by simp [strs, List.map_set]
theorem ints_append (a b : List Int) : ints a ++ ints b = ints (a ++ b) := by simp [ints]
theorem strs_append (a b : List (List UInt8)) : strs a ++ strs b = strs (a ++ b) := by simp [strs]
theorem ints_snoc (a : List Int) (z : Int) : ints a ++ [.int .i64 z] = ints (a ++ [z]) := by simp [ints]
theorem strs_snoc (a : List (List UInt8)) (z : List UInt8) : strs a ++ [str z] = strs (a ++ [z]) := by simp [strs]
theorem ints_rep (n : Nat) (z : Int) : List.replicate n (Value.int .i64 z) = ints (List.replicate n z) := by simp [ints]
theorem flat_ints (zs : List Int) : ∀ v ∈ ints zs, flatV v = true := by intro v hv; obtain ⟨_, _, rfl⟩ := List.mem_map.1 hv; rfl
theorem flat_strs (zs : List (List UInt8)) : ∀ v ∈ strs zs, flatV v = true := by intro v hv; obtain ⟨_, _, rfl⟩ := List.mem_map.1 hv; rfl
/-- A property of memory that new blocks do not touch. -/
def Stab (G : Mem → Prop) : Prop := ∀ M b B, G M → M b = none → G (M.put b B)
theorem stab_true : Stab fun _ => True := fun _ _ _ _ _ => trivial
/-- A function value that tells p of each of some values, wherever G holds. -/
def Tells (P : Program) (fv : Value) (xs : List Value) (p : Value → Bool) (G : Mem → Prop) : Prop :=
  ∀ x ∈ xs, ∀ M R, G M → R (.bool (p x)) M → vCallV P fv [x] R M
def Tells0 (P : Program) (fv : Value) (b : Bool) (G : Mem → Prop) : Prop := ∀ M R, G M → R (.bool b) M → vCallV P fv [] R M

theorem within_does (n lo hi : Int) (M : Mem) (R : Value → Mem → Prop) (h : R (.bool (decide (lo ≤ n ∧ n ≤ hi))) M) : Does Tryz.prog 67 [.int .i64 n, .int .i64 lo, .int .i64 hi] M R := by
  refine does_fn tab_ok Tryz.func67 rfl (by kernel_rfl) (by kernel_rfl) Tryz.ntmps67 Tryz.results67 rfl ?_
  by_cases h1 : lo ≤ n
  · simp (disch := omega) [h1]; exact ret_of (by simpa [h1] using h)
  · simp (disch := omega) [h1]; exact ret_of (by simpa [h1] using h)
theorem isLength_does (n : Int) (M : Mem) (R : Value → Mem → Prop) (h : R (.bool (decide (0 ≤ n ∧ n ≤ 60))) M) : Does Tryz.prog 100 [.int .i64 n] M R := by
  refine does_fn tab_ok Tryz.func100 rfl (by kernel_rfl) (by kernel_rfl) Tryz.ntmps100 Tryz.results100 rfl ?_
  simp (disch := omega)
  refine within_does _ _ _ _ _ ?_
  simp (disch := omega)
  exact ret_of (by simpa using h)
theorem size_does (l : List UInt8) (M : Mem) (R : Value → Mem → Prop) (hl : l.length ≤ 1099511627776) (h : R (.int .i64 l.length) M) : Does Tryz.prog 80 [str l] M R := by
  refine does_fn tab_ok Tryz.func80 rfl (by kernel_rfl) (by kernel_rfl) Tryz.ntmps80 Tryz.results80 rfl ?_
  simp (disch := omega)
  exact ret_of h
theorem number_does (u : UInt8) (M : Mem) (R : Value → Mem → Prop) (h : R (.int .i64 (u.toNat - 97)) M) : Does Tryz.prog 117 [.int .u8 u.toNat] M R := by
  have hu := u.toNat_lt
  refine does_fn tab_ok Tryz.func117 rfl (by kernel_rfl) (by kernel_rfl) Tryz.ntmps117 Tryz.results117 rfl ?_
  simp (disch := omega)
  exact ret_of h
theorem always_does (M : Mem) (R : Value → Mem → Prop) (h : R (.bool true) M) : Does Tryz.prog 57 [] M R := by
  refine does_fn tab_ok Tryz.func57 rfl (by kernel_rfl) (by kernel_rfl) Tryz.ntmps57 Tryz.results57 rfl ?_
  simp (disch := omega)
  exact ret_of h
theorem indexFuncB_does (v fv : Value) (xs : List Value) (p : Value → Bool) (G : Mem → Prop) (M : Mem) (R : Value → Mem → Prop) (hv : Rd M v xs) (hG : G M) (hf : Tells Tryz.prog fv xs p G) (hl : xs.length ≤ 1099511627776)
    (h : ∀ r : Int, decide (0 ≤ r) = xs.any p → -1 ≤ r → r ≤ xs.length → R (.int .i64 r) M) : Does Tryz.prog 173 [v, fv] M R := by
  refine does_fn tab_ok Tryz.func173 rfl (by kernel_rfl) (by kernel_rfl) Tryz.ntmps173 Tryz.results173 rfl ?_
  rcases hv with ⟨a0, c0, rfl, rfl⟩ | ⟨b, o, c, rfl, hs, hc⟩
  · simp (disch := omega)
    refine loop_to tab_ok [4, 5, 8, 9, 10, 11, 12, 13, 14, 15, 16, 17, 18] (fun i : Nat => [(8, .int .i64 i)]) (fun i M' => M' = M ∧ i = 0) (fun i => 0) 0 (by kernel_rfl) (by simp (disch := omega)) ⟨rfl, rfl⟩ ?_
    rintro i M' g ⟨rfl, rfl⟩
    simp (disch := omega)
    exact ret_of (h (-1) (by simp) (by omega) (by omega))
  · simp (disch := omega)
    refine loop_to tab_ok [4, 5, 8, 9, 10, 11, 12, 13, 14, 15, 16, 17, 18] (fun i : Nat => [(8, .int .i64 i)]) (fun i M' => M' = M ∧ i ≤ xs.length ∧ ∀ x ∈ xs.take i, p x = false) (fun i => xs.length - i) 0 (by kernel_rfl) (by simp (disch := omega)) ⟨rfl, by omega, by simp⟩ ?_
    rintro i M' g ⟨rfl, hi, hp⟩
    by_cases hlt : i < xs.length
    · have hx : xs[i]? = some xs[i] := List.getElem?_eq_getElem hlt
      have hget := sub_get hs hx
      simp (disch := omega) [hget]
      refine hf _ (List.getElem_mem hlt) _ _ hG ?_
      cases hpx : p xs[i]
      · simp (disch := omega)
        refine Rnd.mk' (i + 1) (by omega) (by (repeat (first | exact km | refine kp rfl ?_ | refine km' rfl ?_))) (by simp (disch := omega)) ⟨rfl, by omega, ?_⟩
        rw [List.take_succ_eq_append_getElem hlt]
        intro x hx'
        rcases List.mem_append.1 hx' with h1 | h1
        · exact hp x h1
        · rw [List.mem_singleton.1 h1]; exact hpx
      · simp (disch := omega)
        refine ret_of (h i ?_ (by omega) (by omega))
        have : xs.any p = true := List.any_eq_true.2 ⟨_, List.getElem_mem hlt, hpx⟩
        rw [this]; simp
    · have hi' : i = xs.length := by omega
      subst hi'
      simp (disch := omega)
      refine ret_of (h (-1) ?_ (by omega) (by omega))
      have : xs.any p = false := by
        rw [List.any_eq_false]
        intro x hx'
        rw [hp x (by rwa [List.take_length])]; simp
      rw [this]; rfl
theorem indexFuncS_does (v fv : Value) (xs : List Value) (p : Value → Bool) (G : Mem → Prop) (M : Mem) (R : Value → Mem → Prop) (hv : Rd M v xs) (hG : G M) (hf : Tells Tryz.prog fv xs p G) (hl : xs.length ≤ 1099511627776)
    (h : ∀ r : Int, decide (0 ≤ r) = xs.any p → -1 ≤ r → r ≤ xs.length → R (.int .i64 r) M) : Does Tryz.prog 146 [v, fv] M R := by
  refine does_fn tab_ok Tryz.func146 rfl (by kernel_rfl) (by kernel_rfl) Tryz.ntmps146 Tryz.results146 rfl ?_
  rcases hv with ⟨a0, c0, rfl, rfl⟩ | ⟨b, o, c, rfl, hs, hc⟩
  · simp (disch := omega)
    refine loop_to tab_ok [4, 5, 8, 9, 10, 11, 12, 13, 14, 15, 16, 17, 18] (fun i : Nat => [(8, .int .i64 i)]) (fun i M' => M' = M ∧ i = 0) (fun i => 0) 0 (by kernel_rfl) (by simp (disch := omega)) ⟨rfl, rfl⟩ ?_
    rintro i M' g ⟨rfl, rfl⟩
    simp (disch := omega)
    exact ret_of (h (-1) (by simp) (by omega) (by omega))
  · simp (disch := omega)
    refine loop_to tab_ok [4, 5, 8, 9, 10, 11, 12, 13, 14, 15, 16, 17, 18] (fun i : Nat => [(8, .int .i64 i)]) (fun i M' => M' = M ∧ i ≤ xs.length ∧ ∀ x ∈ xs.take i, p x = false) (fun i => xs.length - i) 0 (by kernel_rfl) (by simp (disch := omega)) ⟨rfl, by omega, by simp⟩ ?_
    rintro i M' g ⟨rfl, hi, hp⟩
    by_cases hlt : i < xs.length
    · have hx : xs[i]? = some xs[i] := List.getElem?_eq_getElem hlt
      have hget := sub_get hs hx
      simp (disch := omega) [hget]
      refine hf _ (List.getElem_mem hlt) _ _ hG ?_
      cases hpx : p xs[i]
      · simp (disch := omega)
        refine Rnd.mk' (i + 1) (by omega) (by (repeat (first | exact km | refine kp rfl ?_ | refine km' rfl ?_))) (by simp (disch := omega)) ⟨rfl, by omega, ?_⟩
        rw [List.take_succ_eq_append_getElem hlt]
        intro x hx'
        rcases List.mem_append.1 hx' with h1 | h1
        · exact hp x h1
        · rw [List.mem_singleton.1 h1]; exact hpx
      · simp (disch := omega)
        refine ret_of (h i ?_ (by omega) (by omega))
        have : xs.any p = true := List.any_eq_true.2 ⟨_, List.getElem_mem hlt, hpx⟩
        rw [this]; simp
    · have hi' : i = xs.length := by omega
      subst hi'
      simp (disch := omega)
      refine ret_of (h (-1) ?_ (by omega) (by omega))
      have : xs.any p = false := by
        rw [List.any_eq_false]
        intro x hx'
        rw [hp x (by rwa [List.take_length])]; simp
      rw [this]; rfl
theorem indexFuncI_does (v fv : Value) (xs : List Value) (p : Value → Bool) (G : Mem → Prop) (M : Mem) (R : Value → Mem → Prop) (hv : Rd M v xs) (hG : G M) (hf : Tells Tryz.prog fv xs p G) (hl : xs.length ≤ 1099511627776)
    (h : ∀ r : Int, decide (0 ≤ r) = xs.any p → -1 ≤ r → r ≤ xs.length → R (.int .i64 r) M) : Does Tryz.prog 133 [v, fv] M R := by
  refine does_fn tab_ok Tryz.func133 rfl (by kernel_rfl) (by kernel_rfl) Tryz.ntmps133 Tryz.results133 rfl ?_
  rcases hv with ⟨a0, c0, rfl, rfl⟩ | ⟨b, o, c, rfl, hs, hc⟩
  · simp (disch := omega)
    refine loop_to tab_ok [4, 5, 8, 9, 10, 11, 12, 13, 14, 15, 16, 17, 18] (fun i : Nat => [(8, .int .i64 i)]) (fun i M' => M' = M ∧ i = 0) (fun i => 0) 0 (by kernel_rfl) (by simp (disch := omega)) ⟨rfl, rfl⟩ ?_
    rintro i M' g ⟨rfl, rfl⟩
    simp (disch := omega)
    exact ret_of (h (-1) (by simp) (by omega) (by omega))
  · simp (disch := omega)
    refine loop_to tab_ok [4, 5, 8, 9, 10, 11, 12, 13, 14, 15, 16, 17, 18] (fun i : Nat => [(8, .int .i64 i)]) (fun i M' => M' = M ∧ i ≤ xs.length ∧ ∀ x ∈ xs.take i, p x = false) (fun i => xs.length - i) 0 (by kernel_rfl) (by simp (disch := omega)) ⟨rfl, by omega, by simp⟩ ?_
    rintro i M' g ⟨rfl, hi, hp⟩
    by_cases hlt : i < xs.length
    · have hx : xs[i]? = some xs[i] := List.getElem?_eq_getElem hlt
      have hget := sub_get hs hx
      simp (disch := omega) [hget]
      refine hf _ (List.getElem_mem hlt) _ _ hG ?_
      cases hpx : p xs[i]
      · simp (disch := omega)
        refine Rnd.mk' (i + 1) (by omega) (by (repeat (first | exact km | refine kp rfl ?_ | refine km' rfl ?_))) (by simp (disch := omega)) ⟨rfl, by omega, ?_⟩
        rw [List.take_succ_eq_append_getElem hlt]
        intro x hx'
        rcases List.mem_append.1 hx' with h1 | h1
        · exact hp x h1
        · rw [List.mem_singleton.1 h1]; exact hpx
      · simp (disch := omega)
        refine ret_of (h i ?_ (by omega) (by omega))
        have : xs.any p = true := List.any_eq_true.2 ⟨_, List.getElem_mem hlt, hpx⟩
        rw [this]; simp
    · have hi' : i = xs.length := by omega
      subst hi'
      simp (disch := omega)
      refine ret_of (h (-1) ?_ (by omega) (by omega))
      have : xs.any p = false := by
        rw [List.any_eq_false]
        intro x hx'
        rw [hp x (by rwa [List.take_length])]; simp
      rw [this]; rfl
theorem containsFuncB_does (v fv : Value) (xs : List Value) (p : Value → Bool) (G : Mem → Prop) (M : Mem) (R : Value → Mem → Prop) (hv : Rd M v xs) (hG : G M) (hf : Tells Tryz.prog fv xs p G) (hl : xs.length ≤ 1099511627776)
    (h : R (.bool (xs.any p)) M) : Does Tryz.prog 147 [v, fv] M R := by
  refine does_fn tab_ok Tryz.func147 rfl (by kernel_rfl) (by kernel_rfl) Tryz.ntmps147 Tryz.results147 rfl ?_
  simp (disch := omega)
  refine indexFuncB_does v fv xs p G M _ hv hG hf hl fun r h1 h2 h3 => ?_
  simp (disch := omega)
  rw [h1]
  exact ret_of h
theorem containsFuncS_does (v fv : Value) (xs : List Value) (p : Value → Bool) (G : Mem → Prop) (M : Mem) (R : Value → Mem → Prop) (hv : Rd M v xs) (hG : G M) (hf : Tells Tryz.prog fv xs p G) (hl : xs.length ≤ 1099511627776)
    (h : R (.bool (xs.any p)) M) : Does Tryz.prog 128 [v, fv] M R := by
  refine does_fn tab_ok Tryz.func128 rfl (by kernel_rfl) (by kernel_rfl) Tryz.ntmps128 Tryz.results128 rfl ?_
  simp (disch := omega)
  refine indexFuncS_does v fv xs p G M _ hv hG hf hl fun r h1 h2 h3 => ?_
  simp (disch := omega)
  rw [h1]
  exact ret_of h
theorem containsFuncI_does (v fv : Value) (xs : List Value) (p : Value → Bool) (G : Mem → Prop) (M : Mem) (R : Value → Mem → Prop) (hv : Rd M v xs) (hG : G M) (hf : Tells Tryz.prog fv xs p G) (hl : xs.length ≤ 1099511627776)
    (h : R (.bool (xs.any p)) M) : Does Tryz.prog 113 [v, fv] M R := by
  refine does_fn tab_ok Tryz.func113 rfl (by kernel_rfl) (by kernel_rfl) Tryz.ntmps113 Tryz.results113 rfl ?_
  simp (disch := omega)
  refine indexFuncI_does v fv xs p G M _ hv hG hf hl fun r h1 h2 h3 => ?_
  simp (disch := omega)
  rw [h1]
  exact ret_of h
theorem areAllB_does (v fv : Value) (xs : List Value) (p : Value → Bool) (G : Mem → Prop) (M : Mem) (R : Value → Mem → Prop) (hv : Rd M v xs) (hG : G M) (hst : Stab G) (hf : Tells Tryz.prog fv xs p G) (hff : flatV fv = true) (hl : xs.length ≤ 1099511627776)
    (h : R (.bool (xs.all p)) M) : Does Tryz.prog 130 [v, fv] M R := by
  refine does_fn tab_ok Tryz.func130 rfl (by kernel_rfl) (by kernel_rfl) Tryz.ntmps130 Tryz.results130 rfl ?_
  simp (disch := omega) [hff]
  intro b hb
  simp (disch := omega)
  refine containsFuncB_does v _ xs (fun x => !p x) (fun M' => G M' ∧ M'.get? b 0 = some fv) _ _ (hv.put hb _) ⟨hst _ _ _ hG hb, by simp (disch := omega)⟩ ?_ hl ?_
  · rintro x hx M' R' ⟨h1, h2⟩ h3
    simp (disch := omega)
    refine does_fn tab_ok Tryz.func148 rfl (by kernel_rfl) (by kernel_rfl) Tryz.ntmps148 Tryz.results148 rfl ?_
    simp (disch := omega) [h2]
    refine hf x hx _ _ h1 ?_
    simp (disch := omega)
    exact ret_of h3
  · simp (disch := omega)
    refine ret_sub ((Sub.refl M).put hb _) ?_
    have e : (!xs.any fun x => !p x) = xs.all p := by rw [List.all_eq_not_any_not]
    rw [e]; exact h
theorem areAllS_does (v fv : Value) (xs : List Value) (p : Value → Bool) (G : Mem → Prop) (M : Mem) (R : Value → Mem → Prop) (hv : Rd M v xs) (hG : G M) (hst : Stab G) (hf : Tells Tryz.prog fv xs p G) (hff : flatV fv = true) (hl : xs.length ≤ 1099511627776)
    (h : R (.bool (xs.all p)) M) : Does Tryz.prog 109 [v, fv] M R := by
  refine does_fn tab_ok Tryz.func109 rfl (by kernel_rfl) (by kernel_rfl) Tryz.ntmps109 Tryz.results109 rfl ?_
  simp (disch := omega) [hff]
  intro b hb
  simp (disch := omega)
  refine containsFuncS_does v _ xs (fun x => !p x) (fun M' => G M' ∧ M'.get? b 0 = some fv) _ _ (hv.put hb _) ⟨hst _ _ _ hG hb, by simp (disch := omega)⟩ ?_ hl ?_
  · rintro x hx M' R' ⟨h1, h2⟩ h3
    simp (disch := omega)
    refine does_fn tab_ok Tryz.func129 rfl (by kernel_rfl) (by kernel_rfl) Tryz.ntmps129 Tryz.results129 rfl ?_
    simp (disch := omega) [h2]
    refine hf x hx _ _ h1 ?_
    simp (disch := omega)
    exact ret_of h3
  · simp (disch := omega)
    refine ret_sub ((Sub.refl M).put hb _) ?_
    have e : (!xs.any fun x => !p x) = xs.all p := by rw [List.all_eq_not_any_not]
    rw [e]; exact h
theorem areAllI_does (v fv : Value) (xs : List Value) (p : Value → Bool) (G : Mem → Prop) (M : Mem) (R : Value → Mem → Prop) (hv : Rd M v xs) (hG : G M) (hst : Stab G) (hf : Tells Tryz.prog fv xs p G) (hff : flatV fv = true) (hl : xs.length ≤ 1099511627776)
    (h : R (.bool (xs.all p)) M) : Does Tryz.prog 65 [v, fv] M R := by
  refine does_fn tab_ok Tryz.func65 rfl (by kernel_rfl) (by kernel_rfl) Tryz.ntmps65 Tryz.results65 rfl ?_
  simp (disch := omega) [hff]
  intro b hb
  simp (disch := omega)
  refine containsFuncI_does v _ xs (fun x => !p x) (fun M' => G M' ∧ M'.get? b 0 = some fv) _ _ (hv.put hb _) ⟨hst _ _ _ hG hb, by simp (disch := omega)⟩ ?_ hl ?_
  · rintro x hx M' R' ⟨h1, h2⟩ h3
    simp (disch := omega)
    refine does_fn tab_ok Tryz.func114 rfl (by kernel_rfl) (by kernel_rfl) Tryz.ntmps114 Tryz.results114 rfl ?_
    simp (disch := omega) [h2]
    refine hf x hx _ _ h1 ?_
    simp (disch := omega)
    exact ret_of h3
  · simp (disch := omega)
    refine ret_sub ((Sub.refl M).put hb _) ?_
    have e : (!xs.any fun x => !p x) = xs.all p := by rw [List.all_eq_not_any_not]
    rw [e]; exact h
/-- Is a byte one of the letters a to e? -/
def isL (u : UInt8) : Bool := decide (97 ≤ u.toNat) && decide (u.toNat < 102)
def isWord (l : List UInt8) : Bool := decide (l.length ≤ 60) && l.all isL
def onB (q : UInt8 → Bool) : Value → Bool
  | .int _ n => q (UInt8.ofNat n.toNat)
  | _ => false
theorem onB_byte (q : UInt8 → Bool) (u : UInt8) : onB q (.int .u8 u.toNat) = q u := by simp [onB]
theorem all_bytes (q : UInt8 → Bool) (l : List UInt8) : (bytesV l).all (onB q) = l.all q := by
  induction l with
  | nil => rfl
  | cons u l ih => simp only [bytesV, List.map_cons, List.all_cons, onB_byte] at *; rw [ih]
theorem mem_bytes {l : List UInt8} {x : Value} (h : x ∈ bytesV l) : ∃ u ∈ l, x = .int .u8 u.toNat := by
  obtain ⟨u, h1, h2⟩ := List.mem_map.1 h; exact ⟨u, h1, h2.symm⟩
theorem isWord1_tells (l : List UInt8) : Tells Tryz.prog (.func (.func 131) #[] #[]) (bytesV l) (onB isL) (fun _ => True) := by
  intro x hx M R _ h
  obtain ⟨u, _, rfl⟩ := mem_bytes hx
  rw [onB_byte] at h
  simp (disch := omega)
  refine does_fn tab_ok Tryz.func131 rfl (by kernel_rfl) (by kernel_rfl) Tryz.ntmps131 Tryz.results131 rfl ?_
  by_cases h1 : 97 ≤ (u.toNat : Int)
  · have e : isL u = decide ((u.toNat : Int) < 102) := by unfold isL; rw [decide_eq_true (by omega : 97 ≤ u.toNat)]; simp only [Bool.true_and, decide_eq_decide]; omega
    rw [e] at h
    simp (disch := omega) [h1]
    exact ret_of h
  · have e : isL u = false := by unfold isL; rw [decide_eq_false (by omega : ¬ 97 ≤ u.toNat)]; rfl
    rw [e] at h
    simp (disch := omega) [h1]
    exact ret_of h
theorem isWord_does (l : List UInt8) (M : Mem) (R : Value → Mem → Prop) (hl : l.length ≤ 1099511627776) (h : R (.bool (isWord l)) M) : Does Tryz.prog 110 [str l] M R := by
  refine does_fn tab_ok Tryz.func110 rfl (by kernel_rfl) (by kernel_rfl) Tryz.ntmps110 Tryz.results110 rfl ?_
  by_cases h1 : l.length ≤ 60
  · have e : isWord l = l.all isL := by unfold isWord; rw [decide_eq_true h1]; rfl
    rw [e] at h
    have h1' : (l.length : Int) ≤ 60 := by omega
    simp (disch := omega) [h1']
    intro b c hb hc
    simp (disch := omega)
    refine areAllB_does _ _ (bytesV l) (onB isL) (fun _ => True) _ _ (Rd.new (bytesV_length l) (by simp (disch := omega) at hc; omega)) trivial stab_true (isWord1_tells l) rfl (by rw [bytesV_length]; omega) ?_
    rw [all_bytes]
    simp (disch := omega) [h1']
    exact ret_sub ((Sub.refl M).put hb _) h
  · have e : isWord l = false := by unfold isWord; rw [decide_eq_false h1]; rfl
    rw [e] at h
    have h1' : ¬ (l.length : Int) ≤ 60 := by omega
    simp (disch := omega) [h1']
    exact ret_of h
theorem letter_does (n : Int) (M : Mem) (R : Value → Mem → Prop) (h0 : 0 ≤ n) (h1 : n ≤ 4) (h : R (str [UInt8.ofNat (97 + n.toNat)]) M) : Does Tryz.prog 95 [.int .i64 n] M R := by
  refine does_fn tab_ok Tryz.func95 rfl (by kernel_rfl) (by kernel_rfl) Tryz.ntmps95 Tryz.results95 rfl ?_
  simp (disch := omega)
  intro b hb
  simp (disch := omega)
  have e : (97 + n).toNat = 97 + n.toNat := by omega
  rw [← e] at h
  exact ret_sub ((Sub.refl M).put hb _) h
end Go.Proofs.YthpcojnpiggaiaaGreat
/-! Contracts: the code of words, counts of letters, comparisons of slices. -/
namespace Go.Proofs.YthpcojnpiggaiaaGreat
open Go
set_option linter.unusedSimpArgs false
set_option linter.unusedVariables false

def onS (q : List UInt8 → Bool) : Value → Bool
  | .string s => q (sl s)
  | _ => false
theorem onS_str (q : List UInt8 → Bool) (l : List UInt8) : onS q (str l) = q l := rfl
theorem all_strs (q : List UInt8 → Bool) (ws : List (List UInt8)) : (strs ws).all (onS q) = ws.all q := by
  induction ws with
  | nil => rfl
  | cons w ws ih => rw [strs_cons, List.all_cons, List.all_cons, onS_str, ih]
theorem mem_strs {ws : List (List UInt8)} {x : Value} (h : x ∈ strs ws) : ∃ w ∈ ws, x = str w := by
  obtain ⟨u, h1, h2⟩ := List.mem_map.1 h; exact ⟨u, h1, h2.symm⟩
/-- Strings that any memory may hold. -/
def Fine (ws : List (List UInt8)) : Prop := ∀ w ∈ ws, w.length ≤ 1099511627776
def codeOf (ws : List (List UInt8)) (b : Bool) : Int := if ws.all isWord then (if b then 0 else 2) else 1
theorem isWord_tells (ws : List (List UInt8)) (hw : Fine ws) (G : Mem → Prop) : Tells Tryz.prog (.func (.func 110) #[] #[]) (strs ws) (onS isWord) G := by
  intro x hx M R _ h
  obtain ⟨w, hm, rfl⟩ := mem_strs hx
  simp (disch := omega)
  exact isWord_does w M R (hw w hm) h
theorem always_tells (G : Mem → Prop) : Tells0 Tryz.prog (.func (.func 57) #[] #[]) true G := fun M R _ h => by
  simp (disch := omega)
  exact always_does M R h
theorem wordCode_does' (fv v : Value) (ws : List (List UInt8)) (b : Bool) (G : Mem → Prop) (M : Mem) (R : Value → Mem → Prop) (hv : Rd M v (strs ws)) (hw : Fine ws) (hn : ws.length ≤ 1099511627776) (hG : G M) (hst : Stab G)
    (hf : ws.all isWord = true → Tells0 Tryz.prog fv b G) (h : R (.int .i64 (codeOf ws b)) M) : Does Tryz.prog 56 [fv, v] M R := by
  refine does_fn tab_ok Tryz.func56 rfl (by kernel_rfl) (by kernel_rfl) Tryz.ntmps56 Tryz.results56 rfl ?_
  simp (disch := omega)
  refine areAllS_does _ _ (strs ws) (onS isWord) G _ _ hv hG hst (isWord_tells ws hw G) rfl (by rw [strs_length]; exact hn) ?_
  rw [all_strs]
  unfold codeOf at h
  cases hb : ws.all isWord
  · rw [hb] at h
    simp (disch := omega)
    exact ret_of h
  · rw [hb] at h
    simp (disch := omega)
    refine hf hb _ _ hG ?_
    cases b
    · simp (disch := omega)
      exact ret_of h
    · simp (disch := omega)
      exact ret_of h
theorem wordCode_does (fv v : Value) (ws : List (List UInt8)) (b : Bool) (G : Mem → Prop) (M : Mem) (R : Value → Mem → Prop) (hv : Rd M v (strs ws)) (hw : Fine ws) (hn : ws.length ≤ 1099511627776) (hG : G M) (hst : Stab G)
    (hf : Tells0 Tryz.prog fv b G) (h : R (.int .i64 (codeOf ws b)) M) : Does Tryz.prog 56 [fv, v] M R := wordCode_does' fv v ws b G M R hv hw hn hG hst (fun _ => hf) h
/-- How often each of the letters a to e stands in a word. -/
def cnt (l : List UInt8) (k : Nat) : Int := (l.countP fun u => u.toNat == 97 + k)
def counts (l : List UInt8) : List Int := [cnt l 0, cnt l 1, cnt l 2, cnt l 3, cnt l 4]
theorem counts_nil : counts [] = [0, 0, 0, 0, 0] := rfl
theorem counts_length (l : List UInt8) : (counts l).length = 5 := rfl
theorem isL_range {u : UInt8} (h : isL u = true) : 97 ≤ u.toNat ∧ u.toNat ≤ 101 := by
  unfold isL at h
  simp only [Bool.and_eq_true, decide_eq_true_eq] at h
  omega
theorem cnt_snoc (l : List UInt8) (u : UInt8) (k : Nat) : cnt (l ++ [u]) k = cnt l k + if u.toNat = 97 + k then 1 else 0 := by
  unfold cnt
  rw [List.countP_append]
  simp only [List.countP_cons, List.countP_nil, beq_iff_eq]
  split <;> simp
theorem cnt_le (l : List UInt8) (k : Nat) : 0 ≤ cnt l k ∧ cnt l k ≤ l.length := by
  unfold cnt
  have := List.countP_le_length (p := fun u : UInt8 => u.toNat == 97 + k) (l := l)
  omega
theorem counts_snoc (l : List UInt8) (u : UInt8) (h : isL u = true) : counts (l ++ [u]) = (counts l).set (u.toNat - 97) (cnt l (u.toNat - 97) + 1) := by
  have hr := isL_range h
  unfold counts
  simp only [cnt_snoc]
  have : u.toNat = 97 ∨ u.toNat = 98 ∨ u.toNat = 99 ∨ u.toNat = 100 ∨ u.toNat = 101 := by omega
  rcases this with e | e | e | e | e <;> simp [e]
theorem counts_get (l : List UInt8) {k : Nat} (h : k < 5) : (counts l)[k]? = some (cnt l k) := by
  match k, h with
  | 0, _ => rfl
  | 1, _ => rfl
  | 2, _ => rfl
  | 3, _ => rfl
  | 4, _ => rfl
theorem take_snoc {α : Type} (l : List α) {i : Nat} (h : i < l.length) : l.take (i + 1) = l.take i ++ [l[i]] := List.take_succ_eq_append_getElem h
theorem count_does (l : List UInt8) (M : Mem) (R : Value → Mem → Prop) (hl : l.length ≤ 1099511627776) (hw : l.all isL = true)
    (h : ∀ v M', Own M v (ints (counts l)) M' → R v M') : Does Tryz.prog 73 [str l] M R := by
  refine does_fn tab_ok Tryz.func73 rfl (by kernel_rfl) (by kernel_rfl) Tryz.ntmps73 Tryz.results73 rfl ?_
  simp (disch := omega)
  intro b1 hb1
  simp (disch := omega)
  intro b2 c hb2 hc
  rw [put_none] at hb2
  obtain ⟨h12, hb2⟩ := hb2
  simp (disch := omega)
  have hb2' : (M.put b1 (.cells true (ints (counts l)) 5)) b2 = none := by rw [put_none]; exact ⟨h12, hb2⟩
  refine loop_to tab_ok [5, 10, 11, 12, 13, 14, 15, 16, 17, 18, 19, 20, 21] (fun i : Nat => [(10, .int .i64 i)])
    (fun i M' => i ≤ l.length ∧ M' = (M.put b1 (.cells true (ints (counts (l.take i))) 5)).put b2 (.cells true (bytesV l) c)) (fun i => l.length - i) 0 (by kernel_rfl) (by simp (disch := omega)) ⟨by omega, ?_⟩ ?_
  · rfl
  rintro i M' g ⟨hi, rfl⟩
  by_cases hlt : i < l.length
  · have hx : l[i]? = some l[i] := List.getElem?_eq_getElem hlt
    have hu := l[i].toNat_lt
    have hL : isL l[i] = true := List.all_eq_true.1 hw _ (List.getElem_mem hlt)
    have hr := isL_range hL
    have hk : ((l[i].toNat : Int) - 97).toNat = l[i].toNat - 97 := by omega
    have hg := counts_get (l.take i) (k := l[i].toNat - 97) (by omega)
    have hcl := cnt_le (l.take i) (l[i].toNat - 97)
    have htl : (l.take i).length ≤ l.length := by rw [List.length_take]; omega
    simp (disch := omega) [hx]
    refine number_does _ _ _ ?_
    simp (disch := omega) [hk, hg, counts_length]
    refine Rnd.mk' (i + 1) (by omega) (by (repeat (first | exact km | refine kp rfl ?_ | refine km' rfl ?_))) (by simp (disch := omega)) ⟨by omega, ?_⟩
    rw [ints_set, take_snoc l hlt, counts_snoc _ _ hL]
  · have hi' : i = l.length := by omega
    subst hi'
    simp (disch := omega)
    refine ret_sub ?_ (h _ _ (Own.new (c := 5) hb1 rfl (Nat.le_refl 5)))
    exact (Sub.refl _).put hb2' _
theorem sub_getN {M : Mem} {b o : Nat} {xs : List Value} (h : M.sub? b o xs.length = some xs) {i : Nat} : i < xs.length → M.get? b (o + i) = xs[i]? := by
  intro hi
  rw [sub_get h (List.getElem?_eq_getElem hi), List.getElem?_eq_getElem hi]
theorem take_beq {α : Type} [BEq α] [LawfulBEq α] {xs ys : List α} (hl : xs.length = ys.length) (h : xs.take xs.length = ys.take xs.length) : xs = ys := by
  rw [List.take_length, hl, List.take_length] at h; exact h
theorem equalI_does (v v' : Value) (xs ys : List Int) (M : Mem) (R : Value → Mem → Prop) (hx : Rd M v (ints xs)) (hy : Rd M v' (ints ys)) (hl : xs.length ≤ 1099511627776) (hl' : ys.length ≤ 1099511627776)
    (h : R (.bool (xs == ys)) M) : Does Tryz.prog 111 [v, v'] M R := by
  refine does_fn tab_ok Tryz.func111 rfl (by kernel_rfl) (by kernel_rfl) Tryz.ntmps111 Tryz.results111 rfl ?_
  have lenv : ∀ (v : Value) (zs : List Int), Rd M v (ints zs) → ∃ a c, v = .slice a zs.length c ∧ (zs.length = 0 ∨ ∃ b o, a = some ⟨b, o, none⟩ ∧ M.sub? b o (ints zs).length = some (ints zs)) := by
    rintro v zs (⟨a0, c0, rfl, h2⟩ | ⟨b, o, c, rfl, h2, h3⟩)
    · have : zs.length = 0 := by have := congrArg List.length h2; simpa using this
      exact ⟨a0, c0, by rw [this], .inl this⟩
    · exact ⟨_, c, by rw [ints_length], .inr ⟨b, o, rfl, h2⟩⟩
  obtain ⟨a, c, rfl, ha⟩ := lenv v xs hx
  obtain ⟨a', c', rfl, ha'⟩ := lenv v' ys hy
  by_cases hne : xs.length = ys.length
  · simp (disch := omega) [hne]
    refine loop_to tab_ok [4, 5, 13, 14, 15, 16, 17, 18, 19, 20, 21, 22, 23, 24, 25] (fun i : Nat => [(13, .int .i64 i)]) (fun i M' => M' = M ∧ i ≤ xs.length ∧ xs.take i = ys.take i) (fun i => xs.length - i) 0 (by kernel_rfl) (by simp (disch := omega)) ⟨rfl, by omega, rfl⟩ ?_
    rintro i M' g ⟨rfl, hi, he⟩
    by_cases hlt : i < xs.length
    · rcases ha with h0 | ⟨b, o, rfl, hs⟩
      · omega
      rcases ha' with h0 | ⟨b', o', rfl, hs'⟩
      · omega
      have hg := sub_getN hs (i := i) (by rw [ints_length]; omega)
      have hg' := sub_getN hs' (i := i) (by rw [ints_length]; omega)
      have hx : xs[i]? = some xs[i] := List.getElem?_eq_getElem hlt
      have hlt' : i < ys.length := by omega
      have hy : ys[i]? = some ys[i] := List.getElem?_eq_getElem hlt'
      simp (disch := omega) [hne]
      refine draw_to tab_ok (by kernel_rfl) (by kernel_rfl) (by rfl) ?_
      simp (disch := omega) [hg, hg', hx, hy]
      by_cases hq : xs[i] = ys[i]
      · have hq' : (xs[i] == ys[i]) = true := by rw [hq]; exact beq_self_eq_true _
        simp (disch := omega) [hq']
        refine Rnd.mk' (i + 1) (by omega) (by (repeat (first | exact km | refine kp rfl ?_ | refine km' rfl ?_))) (by simp (disch := omega)) ⟨rfl, by omega, ?_⟩
        rw [take_snoc xs hlt, take_snoc ys hlt', he, hq]
      · have hq' : (xs[i] == ys[i]) = false := beq_eq_false_iff_ne.2 hq
        simp (disch := omega) [hq']
        refine ret_of ?_
        have : (xs == ys) = false := by
          rw [beq_eq_false_iff_ne]; rintro rfl; exact hq rfl
        rw [this] at h; exact h
    · have hi' : i = xs.length := by omega
      subst hi'
      simp (disch := omega) [hne]
      refine ret_of ?_
      have : xs = ys := take_beq hne he
      subst this
      simpa using h
  · simp (disch := omega) [hne]
    refine ret_of ?_
    have : (xs == ys) = false := by
      rw [beq_eq_false_iff_ne]; rintro rfl; exact hne rfl
    rw [this] at h; exact h
theorem likeInts_does (v v' : Value) (xs ys : List Int) (M : Mem) (R : Value → Mem → Prop) (hx : Rd M v (ints xs)) (hy : Rd M v' (ints ys)) (hl : xs.length ≤ 1099511627776) (hl' : ys.length ≤ 1099511627776)
    (h : R (.bool (xs == ys)) M) : Does Tryz.prog 38 [v, v'] M R := by
  refine does_fn tab_ok Tryz.func38 rfl (by kernel_rfl) (by kernel_rfl) Tryz.ntmps38 Tryz.results38 rfl ?_
  have lenv : ∀ (v : Value) (zs : List Int), Rd M v (ints zs) → ∃ a c, v = .slice a zs.length c ∧ (zs.length = 0 ∨ ∃ b o, a = some ⟨b, o, none⟩ ∧ M.sub? b o (ints zs).length = some (ints zs)) := by
    rintro v zs (⟨a0, c0, rfl, h2⟩ | ⟨b, o, c, rfl, h2, h3⟩)
    · have : zs.length = 0 := by have := congrArg List.length h2; simpa using this
      exact ⟨a0, c0, by rw [this], .inl this⟩
    · exact ⟨_, c, by rw [ints_length], .inr ⟨b, o, rfl, h2⟩⟩
  obtain ⟨a, c, rfl, ha⟩ := lenv v xs hx
  obtain ⟨a', c', rfl, ha'⟩ := lenv v' ys hy
  by_cases hne : xs.length = ys.length
  · simp (disch := omega) [hne]
    refine loop_to tab_ok [4, 5, 11, 12, 13, 14, 15, 16, 17, 18, 19, 20, 21, 22, 23, 24, 25] (fun i : Nat => [(5, .int .i64 i)]) (fun i M' => M' = M ∧ i ≤ xs.length ∧ xs.take i = ys.take i) (fun i => xs.length - i) 0 (by kernel_rfl) (by simp (disch := omega)) ⟨rfl, by omega, rfl⟩ ?_
    rintro i M' g ⟨rfl, hi, he⟩
    by_cases hlt : i < xs.length
    · rcases ha with h0 | ⟨b, o, rfl, hs⟩
      · omega
      rcases ha' with h0 | ⟨b', o', rfl, hs'⟩
      · omega
      have hg := sub_getN hs (i := i) (by rw [ints_length]; omega)
      have hg' := sub_getN hs' (i := i) (by rw [ints_length]; omega)
      have hx : xs[i]? = some xs[i] := List.getElem?_eq_getElem hlt
      have hlt' : i < ys.length := by omega
      have hy : ys[i]? = some ys[i] := List.getElem?_eq_getElem hlt'
      simp (disch := omega) [hne]
      refine draw_to tab_ok (by kernel_rfl) (by kernel_rfl) (by rfl) ?_
      simp (disch := omega) [hg, hg', hx, hy]
      by_cases hq : xs[i] = ys[i]
      · have hq' : (xs[i] == ys[i]) = true := by rw [hq]; exact beq_self_eq_true _
        simp (disch := omega) [hq']
        refine Rnd.mk' (i + 1) (by omega) (by (repeat (first | exact km | refine kp rfl ?_ | refine km' rfl ?_))) (by simp (disch := omega)) ⟨rfl, by omega, ?_⟩
        rw [take_snoc xs hlt, take_snoc ys hlt', he, hq]
      · have hq' : (xs[i] == ys[i]) = false := beq_eq_false_iff_ne.2 hq
        simp (disch := omega) [hq']
        refine ret_of ?_
        have : (xs == ys) = false := by
          rw [beq_eq_false_iff_ne]; rintro rfl; exact hq rfl
        rw [this] at h; exact h
    · have hi' : i = xs.length := by omega
      subst hi'
      simp (disch := omega) [hne]
      refine ret_of ?_
      have : xs = ys := take_beq hne he
      subst this
      simpa using h
  · simp (disch := omega) [hne]
    refine ret_of ?_
    have : (xs == ys) = false := by
      rw [beq_eq_false_iff_ne]; rintro rfl; exact hne rfl
    rw [this] at h; exact h
end Go.Proofs.YthpcojnpiggaiaaGreat
/-! Contracts: what the laws do to the slices that they were given: marks put in and held. -/
namespace Go.Proofs.YthpcojnpiggaiaaGreat
open Go
set_option linter.unusedSimpArgs false
set_option linter.unusedVariables false

theorem set_mid {α : Type} (A B : List α) (x v : α) : (A ++ x :: B).set A.length v = A ++ v :: B := by
  rw [List.set_append_right _ _ (Nat.le_refl _)]; simp
/-- Marks from k on. -/
def markI (k : Int) (n : Nat) : List Value := (List.range n).map fun (j : Nat) => Value.int .i64 (k + j)
@[simp] theorem markI_length (k : Int) (n : Nat) : (markI k n).length = n := by simp [markI]
theorem markI_succ (k : Int) (n : Nat) : markI k (n + 1) = markI k n ++ [.int .i64 (k + n)] := by simp [markI, List.range_succ]
theorem markI_get (k : Int) {n i : Nat} (h : i < n) : (markI k n)[i]? = some (.int .i64 (k + i)) := by simp [markI, h]
def digits : Nat → Nat → List UInt8 → List UInt8
  | 0, _, acc => acc
  | fuel + 1, k, acc => if k = 0 then acc else digits fuel (k / 10) (UInt8.ofNat (48 + k % 10) :: acc)
/-- The text that marks a string. -/
def markT (k : Int) : List UInt8 := if k ≤ 0 then [109, 48] else 109 :: digits k.toNat k.toNat []
def markS (k : Int) (n : Nat) : List Value := (List.range n).map fun (j : Nat) => str (markT (k + j))
@[simp] theorem markS_length (k : Int) (n : Nat) : (markS k n).length = n := by simp [markS]
theorem markS_succ (k : Int) (n : Nat) : markS k (n + 1) = markS k n ++ [str (markT (k + n))] := by simp [markS, List.range_succ]
theorem markS_get (k : Int) {n i : Nat} (h : i < n) : (markS k n)[i]? = some (str (markT (k + i))) := by simp [markS, h]
theorem digits_more : ∀ (f g k : Nat) (acc : List UInt8), k ≤ f → k ≤ g → digits f k acc = digits g k acc
  | 0, g, k, acc, h1, h2 => by
    have : k = 0 := by omega
    subst this
    cases g <;> simp [digits]
  | f + 1, 0, k, acc, h1, h2 => by
    have : k = 0 := by omega
    subst this
    simp [digits]
  | f + 1, g + 1, k, acc, h1, h2 => by
    unfold digits
    split
    · rfl
    · exact digits_more f g (k / 10) _ (by omega) (by omega)
theorem digits_step (k : Nat) (acc : List UInt8) (h : 0 < k) : digits k k acc = digits (k / 10) (k / 10) (UInt8.ofNat (48 + k % 10) :: acc) := by
  match k, h with
  | k + 1, _ =>
    conv => lhs; unfold digits
    rw [if_neg (by omega)]
    exact digits_more _ _ _ _ (by omega) (Nat.le_refl _)
theorem u8_add (x : Nat) : UInt8.ofNat (48 + (x : Int) % 10).toNat = 48 + UInt8.ofNat (x % 10) := by
  have : (48 + (x : Int) % 10).toNat = 48 + x % 10 := by omega
  rw [this, UInt8.ofNat_add]
  rfl
end Go.Proofs.YthpcojnpiggaiaaGreat
/-! Contracts: appending; the specification's small functions; letters and counts. -/
namespace Go.Proofs.YthpcojnpiggaiaaGreat
open Go
set_option linter.unusedSimpArgs false
set_option linter.unusedVariables false

theorem del_put {M : Mem} {b : Nat} (h : M b = none) (B : Blk) : (M.put b B).del b = M := by
  funext i
  simp only [Mem.del, Mem.put]
  split
  · rename_i e; rw [e, h]
  · rfl
/-- Appending to a slice of its own makes a slice of its own; other things told are kept. -/
theorem app_own {M M' N : Mem} {v x : Value} {xs news : List Value} {e bytes s : Nat} {z zz : Value} {d : Option TI} {K : Value → Mem → Prop} (h : Own M v xs M') (hs : Sub M' N) (hsrc : srcOf N x = some news) (hok : okSrc d = true) (hz : flatV z = true) (hb : 1 ≤ bytes ∧ bytes ≤ 32)
    (hfl : ∀ v ∈ news, flatV v = true) (hbd : (xs.length + news.length) * bytes ≤ 70368744177664) (hk : ∀ v' M'' N'', Own M v' (xs ++ news) M'' → Sub M'' N'' → K v' N'') :
    vAppD (some ⟨.slc e 1 bytes z, s, zz⟩) d v x K N := by
  rcases h with ⟨rfl, rfl, rfl⟩ | ⟨b, c, rfl, hM, hc, rfl⟩
  · rw [vApp_nil]
    refine ⟨⟨hok, hz, hb⟩, ?_⟩
    rw [hsrc]
    cases news with
    | nil => rw [vApp0_nil]; exact hk _ _ _ (Own.nil _) hs
    | cons y ys =>
      rw [vApp0_cons]
      refine ⟨by simpa using hbd, ?_⟩
      intro b c hN hc
      have hM : M' b = none := by
        cases hMb : M' b with
        | none => rfl
        | some B => rw [hs _ _ hMb] at hN; cases hN
      exact hk _ _ _ (Own.new hM rfl hc) (hs.both b _)
  · have hN := hs b _ (put_same _ _ _)
    rw [vApp_own]
    refine ⟨⟨hok, hz, hb⟩, ?_⟩
    rw [hN, hsrc, vApp2_own]
    refine ⟨⟨rfl, rfl, hbd, hfl⟩, ?_⟩
    intro b' c' hN' hc'
    have hs' : Sub M (N.del b) := by
      intro i B hi
      have hne : i ≠ b := by rintro rfl; rw [hM] at hi; cases hi
      simp only [Mem.del, if_neg hne]
      exact hs _ _ ((Sub.refl M).put hM _ _ _ hi)
    have hM' : M b' = none := by
      cases hMb : M b' with
      | none => rfl
      | some B => rw [hs' _ _ hMb] at hN'; cases hN'
    exact hk _ _ _ (Own.new hM' (by rw [List.length_append]) hc') (hs'.both b' _)
theorem l01Is_does (l : List UInt8) (M : Mem) (R : Value → Mem → Prop) (hl : l.length ≤ 1099511627776) (h : R (.bool (isWord l)) M) : Does Tryz.prog 59 [str l] M R := by
  refine does_fn tab_ok Tryz.func59 rfl (by kernel_rfl) (by kernel_rfl) Tryz.ntmps59 Tryz.results59 rfl ?_
  simp (disch := omega)
  refine loop_to tab_ok [2, 3, 4, 5, 6, 7, 8, 9, 10, 11, 12, 13, 14, 15, 16, 17, 18, 19] (fun i : Nat => [(3, .int .i64 i)]) (fun i M' => M' = M ∧ i ≤ l.length ∧ ∀ u ∈ l.take i, isL u = true) (fun i => l.length - i) 0 (by kernel_rfl) (by simp (disch := omega)) ⟨rfl, by omega, by simp⟩ ?_
  rintro i M' g ⟨rfl, hi, hp⟩
  by_cases hlt : i < l.length
  · have hx : l[i]? = some l[i] := List.getElem?_eq_getElem hlt
    have hu := l[i].toNat_lt
    have bad : isL l[i] = false → isWord l = false := by
      intro hb
      have : l.all isL = false := List.all_eq_false.2 ⟨_, List.getElem_mem hlt, by rw [hb]; simp⟩
      unfold isWord; rw [this, Bool.and_false]
    by_cases h1 : (l[i].toNat : Int) < 97
    · have hb : isL l[i] = false := by unfold isL; rw [decide_eq_false (by omega : ¬ 97 ≤ l[i].toNat)]; rfl
      rw [bad hb] at h
      simp (disch := omega) [hx, h1]
      exact ret_of h
    · by_cases h2 : 101 < (l[i].toNat : Int)
      · have hb : isL l[i] = false := by unfold isL; rw [decide_eq_false (by omega : ¬ l[i].toNat < 102), Bool.and_false]
        rw [bad hb] at h
        simp (disch := omega) [hx, h1, h2]
        exact ret_of h
      · have hb : isL l[i] = true := by unfold isL; rw [decide_eq_true (by omega : 97 ≤ l[i].toNat), decide_eq_true (by omega : l[i].toNat < 102)]; rfl
        simp (disch := omega) [hx, h1, h2]
        refine Rnd.mk' (i + 1) (by omega) (by (repeat (first | exact km | refine kp rfl ?_ | refine km' rfl ?_))) (by simp (disch := omega)) ⟨rfl, by omega, ?_⟩
        rw [take_snoc l hlt]
        intro u hu
        rcases List.mem_append.1 hu with hu | hu
        · exact hp u hu
        · rw [List.mem_singleton.1 hu]; exact hb
  · have hi' : i = l.length := by omega
    subst hi'
    rw [List.take_length] at hp
    have e : isWord l = decide (l.length ≤ 60) := by unfold isWord; rw [List.all_eq_true.2 hp, Bool.and_true]
    rw [e] at h
    by_cases h6 : l.length ≤ 60
    · have h6' : (l.length : Int) ≤ 60 := by omega
      rw [decide_eq_true h6] at h
      simp (disch := omega) [h6']
      exact ret_of h
    · have h6' : ¬ (l.length : Int) ≤ 60 := by omega
      rw [decide_eq_false h6] at h
      simp (disch := omega) [h6']
      exact ret_of h
theorem l01At_does (l : List UInt8) (i : Nat) (u : UInt8) (M : Mem) (R : Value → Mem → Prop) (hl : l.length ≤ 1099511627776) (hx : l[i]? = some u) (h : R (.int .i64 (u.toNat - 97)) M) : Does Tryz.prog 104 [str l, .int .i64 i] M R := by
  obtain ⟨hi, rfl⟩ := List.getElem?_eq_some_iff.1 hx
  have hu := l[i].toNat_lt
  refine does_fn tab_ok Tryz.func104 rfl (by kernel_rfl) (by kernel_rfl) Tryz.ntmps104 Tryz.results104 rfl ?_
  simp (disch := omega) [hx]
  exact ret_of h
/-- The letters' numbers. -/
def nums (l : List UInt8) : List Int := l.map fun u => (u.toNat : Int) - 97
@[simp] theorem nums_length (l : List UInt8) : (nums l).length = l.length := by simp [nums]
theorem nums_snoc (l : List UInt8) (u : UInt8) : nums (l ++ [u]) = nums l ++ [(u.toNat : Int) - 97] := by simp [nums]
theorem isWord_len {l : List UInt8} (h : isWord l = true) : l.length ≤ 60 := by
  unfold isWord at h; simp only [Bool.and_eq_true, decide_eq_true_eq] at h; exact h.1
theorem isWord_all {l : List UInt8} (h : isWord l = true) : l.all isL = true := by
  unfold isWord at h; simp only [Bool.and_eq_true, decide_eq_true_eq] at h; exact h.2
/-- A list and its code. -/
def Lst (c : Int) (xs : List Value) (M : Mem) (R : Value → Mem → Prop) : Prop := ∀ v M', Own M v xs M' → R (.tuple #[v, .int .i64 c]) M'
def wcode (l : List UInt8) : Int := if isWord l then 0 else 1
theorem get_of {M : Mem} {b tot : Nat} {w : Bool} {xs : List Value} (h : M b = some (.cells w xs tot)) (i : Nat) : M.get? b i = xs[i]? := by simp [Mem.get?, h]
theorem sub_of {M : Mem} {b tot : Nat} {w : Bool} {xs : List Value} (h : M b = some (.cells w xs tot)) (o n : Nat) : M.sub? b o n = optIf (o + n ≤ xs.length) ((xs.drop o).take n) := by
  simp only [Mem.sub?, optIf, h]
  by_cases hq : o + n ≤ xs.length
  · rw [if_pos hq, if_pos hq]
  · rw [if_neg hq, if_neg hq]
theorem none_of {M N : Mem} {b : Nat} (hs : Sub M N) (h : N b = none) : M b = none := by
  cases hM : M b with
  | none => rfl
  | some B => rw [hs _ _ hM] at h; cases h
theorem Sub.putN {M N : Mem} {b : Nat} (h : Sub M N) (hb : N b = none) (B : Blk) : Sub M (N.put b B) := h.trans ((Sub.refl N).put hb B)
theorem Own.base {M N M' : Mem} {v : Value} {xs : List Value} (h : Own N v xs M') (hs : Sub M N) : ∃ M'', Own M v xs M'' ∧ Sub M'' M' := by
  rcases h with ⟨rfl, rfl, rfl⟩ | ⟨b, c, rfl, hN, hc, rfl⟩
  · exact ⟨M, Own.nil _, hs⟩
  · have hM : M b = none := by
      cases hMb : M b with
      | none => rfl
      | some B => rw [hs _ _ hMb] at hN; cases hN
    exact ⟨_, Own.new hM rfl hc, hs.both b _⟩
theorem codeOf1 (l : List UInt8) (b : Bool) : codeOf [l] b = if isWord l then (if b then 0 else 2) else 1 := by simp [codeOf]
theorem fine1 {l : List UInt8} (h : l.length ≤ 1099511627776) : Fine [l] := by intro w hw; rw [List.mem_singleton.1 hw]; exact h
theorem fine2 {l k : List UInt8} (h : l.length ≤ 1099511627776) (h' : k.length ≤ 1099511627776) : Fine [l, k] := by
  intro w hw
  rcases List.mem_cons.1 hw with rfl | hw
  · exact h
  · rw [List.mem_singleton.1 hw]; exact h'
end Go.Proofs.YthpcojnpiggaiaaGreat
/-! Contracts: counts of letters and numbers of arrangements, of the reference and of the program. -/
namespace Go.Proofs.YthpcojnpiggaiaaGreat
open Go
set_option linter.unusedSimpArgs false
set_option linter.unusedVariables false

theorem Rd.opened {M : Mem} {v : Value} {xs : List Value} (h : Rd M v xs) : ∃ a c, v = .slice a xs.length c ∧ (xs.length = 0 ∨ ∃ b o, a = some ⟨b, o, none⟩ ∧ ∀ i, i < xs.length → M.get? b (o + i) = xs[i]?) := by
  rcases h with ⟨a0, c0, rfl, h2⟩ | ⟨b, o, c, rfl, h2, h3⟩
  · exact ⟨a0, c0, by rw [h2]; rfl, .inl (by rw [h2]; rfl)⟩
  · exact ⟨_, c, rfl, .inr ⟨b, o, rfl, fun i hi => sub_getN h2 hi⟩⟩
theorem l01In_does (n lo hi : Int) (M : Mem) (R : Value → Mem → Prop) (h : R (.bool (decide (lo ≤ n ∧ n ≤ hi))) M) : Does Tryz.prog 70 [.int .i64 n, .int .i64 lo, .int .i64 hi] M R := by
  refine does_fn tab_ok Tryz.func70 rfl (by kernel_rfl) (by kernel_rfl) Tryz.ntmps70 Tryz.results70 rfl ?_
  by_cases h1 : lo ≤ n
  · simp (disch := omega) [h1]; exact ret_of (by simpa [h1] using h)
  · simp (disch := omega) [h1]; exact ret_of (by simpa [h1] using h)
theorem l01Count_does (l : List UInt8) (M : Mem) (R : Value → Mem → Prop) (hl : l.length ≤ 1099511627776) (hw : l.all isL = true)
    (h : ∀ v M', Own M v (ints (counts l)) M' → R v M') : Does Tryz.prog 61 [str l] M R := by
  refine does_fn tab_ok Tryz.func61 rfl (by kernel_rfl) (by kernel_rfl) Tryz.ntmps61 Tryz.results61 rfl ?_
  simp (disch := omega)
  intro b1 hb1
  simp (disch := omega)
  refine loop_to tab_ok [4, 6, 7, 8, 9, 10, 11, 12, 13, 14, 15, 16, 17, 18, 19] (fun i : Nat => [(4, .int .i64 i)])
    (fun i M' => i ≤ l.length ∧ M' = M.put b1 (.cells true (ints (counts (l.take i))) 5)) (fun i => l.length - i) 0 (by kernel_rfl) (by simp (disch := omega)) ⟨by omega, ?_⟩ ?_
  · rfl
  rintro i M' g ⟨hi, rfl⟩
  by_cases hlt : i < l.length
  · have hx : l[i]? = some l[i] := List.getElem?_eq_getElem hlt
    have hu := l[i].toNat_lt
    have hL : isL l[i] = true := List.all_eq_true.1 hw _ (List.getElem_mem hlt)
    have hr := isL_range hL
    have hk : ((l[i].toNat : Int) - 97).toNat = l[i].toNat - 97 := by omega
    have hg := counts_get (l.take i) (k := l[i].toNat - 97) (by omega)
    have hcl := cnt_le (l.take i) (l[i].toNat - 97)
    have htl : (l.take i).length ≤ l.length := by rw [List.length_take]; omega
    simp (disch := omega)
    refine l01At_does l i _ _ _ hl hx ?_
    simp (disch := omega) [hk, hg, counts_length]
    refine Rnd.mk' (i + 1) (by omega) (by (repeat (first | exact km | refine kp rfl ?_ | refine km' rfl ?_))) (by simp (disch := omega)) ⟨by omega, ?_⟩
    rw [ints_set, take_snoc l hlt, counts_snoc _ _ hL]
  · have hi' : i = l.length := by omega
    subst hi'
    simp (disch := omega)
    exact ret_of (h _ _ (Own.new (c := 5) hb1 rfl (Nat.le_refl 5)))
theorem l07Same_does (v v' : Value) (xs ys : List Int) (M : Mem) (R : Value → Mem → Prop) (hx : Rd M v (ints xs)) (hy : Rd M v' (ints ys)) (hl : xs.length = ys.length) (hl' : ys.length ≤ 1099511627776)
    (h : R (.bool (xs == ys)) M) : Does Tryz.prog 60 [v, v'] M R := by
  refine does_fn tab_ok Tryz.func60 rfl (by kernel_rfl) (by kernel_rfl) Tryz.ntmps60 Tryz.results60 rfl ?_
  obtain ⟨a, c, rfl, ha⟩ := hx.opened
  obtain ⟨a', c', rfl, ha'⟩ := hy.opened
  rw [ints_length] at ha ha'
  simp (disch := omega)
  refine loop_to tab_ok [4, 5, 6, 7, 8, 9, 10, 11, 12, 13, 14, 15, 16, 17, 18, 19, 20] (fun i : Nat => [(5, .int .i64 i)]) (fun i M' => M' = M ∧ i ≤ xs.length ∧ xs.take i = ys.take i) (fun i => xs.length - i) 0 (by kernel_rfl) (by simp (disch := omega)) ⟨rfl, by omega, rfl⟩ ?_
  rintro i M' g ⟨rfl, hi, he⟩
  by_cases hlt : i < xs.length
  · rcases ha with h0 | ⟨b, o, rfl, hs⟩
    · omega
    rcases ha' with h0 | ⟨b', o', rfl, hs'⟩
    · omega
    have hg := hs i (by omega)
    have hg' := hs' i (by omega)
    have hx : xs[i]? = some xs[i] := List.getElem?_eq_getElem hlt
    have hlt' : i < ys.length := by omega
    have hy : ys[i]? = some ys[i] := List.getElem?_eq_getElem hlt'
    simp (disch := omega)
    refine draw_to tab_ok (by kernel_rfl) (by kernel_rfl) (by rfl) ?_
    simp (disch := omega) [hg, hg', hx, hy]
    by_cases hq : xs[i] = ys[i]
    · have hq' : (xs[i] == ys[i]) = true := by rw [hq]; exact beq_self_eq_true _
      simp (disch := omega) [hq']
      refine Rnd.mk' (i + 1) (by omega) (by (repeat (first | exact km | refine kp rfl ?_ | refine km' rfl ?_))) (by simp (disch := omega)) ⟨rfl, by omega, ?_⟩
      rw [take_snoc xs hlt, take_snoc ys hlt', he, hq]
    · have hq' : (xs[i] == ys[i]) = false := beq_eq_false_iff_ne.2 hq
      simp (disch := omega) [hq']
      refine ret_of ?_
      have : (xs == ys) = false := by
        rw [beq_eq_false_iff_ne]; rintro rfl; exact hq rfl
      rw [this] at h; exact h
  · have hi' : i = xs.length := by omega
    subst hi'
    simp (disch := omega)
    refine ret_of ?_
    have : xs = ys := take_beq hl he
    subst this
    simpa using h
/-- One step of counting arrangements: the number so far, and how many letters are set. -/
def stepA (s : Nat × Nat) (j : Nat) : Nat × Nat := (s.1 * (s.2 + 1) / (j + 1), s.2 + 1)
def rowA (s : Nat × Nat) (v : Nat) : Nat × Nat := (List.range v).foldl stepA s
def arrA (vs : List Nat) : Nat × Nat := vs.foldl rowA (1, 0)
def fact : Nat → Nat
  | 0 => 1
  | n + 1 => (n + 1) * fact n
theorem rowA_succ (s : Nat × Nat) (v : Nat) : rowA s (v + 1) = stepA (rowA s v) v := by simp [rowA, List.range_succ]
theorem fine_step {s : Nat × Nat} (h : s.1 ≤ fact s.2) (j : Nat) : (stepA s j).1 ≤ fact (stepA s j).2 := by
  simp only [stepA, fact]
  refine Nat.le_trans (Nat.div_le_self _ _) ?_
  rw [Nat.mul_comm]
  exact Nat.mul_le_mul_left _ h
theorem rowA_fine {s : Nat × Nat} (h : s.1 ≤ fact s.2) : ∀ v, (rowA s v).1 ≤ fact (rowA s v).2 ∧ (rowA s v).2 = s.2 + v
  | 0 => ⟨h, rfl⟩
  | v + 1 => by
    obtain ⟨h1, h2⟩ := rowA_fine h v
    rw [rowA_succ]
    exact ⟨fine_step h1 v, by simp only [stepA]; omega⟩
theorem foldA_fine : ∀ (vs : List Nat) (s : Nat × Nat), s.1 ≤ fact s.2 → (vs.foldl rowA s).1 ≤ fact (vs.foldl rowA s).2 ∧ (vs.foldl rowA s).2 = s.2 + vs.sum
  | [], s, h => ⟨h, rfl⟩
  | v :: vs, s, h => by
    obtain ⟨h1, h2⟩ := rowA_fine h v
    obtain ⟨h3, h4⟩ := foldA_fine vs _ h1
    refine ⟨h3, ?_⟩
    rw [List.foldl_cons, h4, h2, List.sum_cons]; omega
theorem fact_le : ∀ {n m : Nat}, n ≤ m → fact n ≤ fact m
  | n, 0, h => by have : n = 0 := by omega
                  subst this; exact Nat.le_refl _
  | n, m + 1, h => by
    rcases Nat.lt_or_ge n (m + 1) with h1 | h1
    · have := fact_le (n := n) (m := m) (by omega)
      simp only [fact]
      exact Nat.le_trans this (Nat.le_mul_of_pos_left _ (by omega))
    · have : n = m + 1 := by omega
      subst this; exact Nat.le_refl _
def natsV (vs : List Nat) : List Value := vs.map fun (n : Nat) => Value.int .i64 n
theorem natsV_length (vs : List Nat) : (natsV vs).length = vs.length := by simp [natsV]
theorem natsV_get {vs : List Nat} {i : Nat} : (natsV vs)[i]? = (vs[i]?).map fun (n : Nat) => Value.int .i64 n := by simp [natsV]
theorem sum_take_le (vs : List Nat) (i : Nat) (h : i < vs.length) : (vs.take i).sum + vs[i] ≤ vs.sum := by
  have h1 := List.sum_append (l₁ := vs.take i) (l₂ := vs.drop i)
  rw [List.take_append_drop, List.drop_eq_getElem_cons h, List.sum_cons] at h1
  omega
theorem sum_le_take (vs : List Nat) (i : Nat) : (vs.take i).sum ≤ vs.sum := by
  have h1 := List.sum_append (l₁ := vs.take i) (l₂ := vs.drop i)
  rw [List.take_append_drop] at h1
  omega
theorem arrA_step {vs : List Nat} (h : vs.sum ≤ 12) {i j : Nat} (hi : i < vs.length) (hj : j < vs[i]) :
    (rowA (arrA (vs.take i)) j).1 * ((rowA (arrA (vs.take i)) j).2 + 1) ≤ 479001600 ∧ (rowA (arrA (vs.take i)) j).2 ≤ 11 := by
  obtain ⟨h1, h2⟩ := foldA_fine (vs.take i) (1, 0) (Nat.le_refl 1)
  obtain ⟨h3, h4⟩ := rowA_fine h1 j
  have h5 := sum_take_le vs i hi
  simp only at h2
  have h6 : (rowA (arrA (vs.take i)) j).2 ≤ 11 := by unfold arrA; omega
  refine ⟨?_, h6⟩
  have h7 := fact_le (n := (rowA (arrA (vs.take i)) j).2 + 1) (m := 12) (by omega)
  have h8 : fact 12 = 479001600 := by decide
  rw [h8] at h7
  simp only [fact] at h7
  refine Nat.le_trans ?_ h7
  rw [Nat.mul_comm]
  exact Nat.mul_le_mul_left _ h3
theorem arrA_fine {vs : List Nat} (h : vs.sum ≤ 12) (i : Nat) : (arrA (vs.take i)).1 ≤ 479001600 ∧ (arrA (vs.take i)).2 ≤ 12 := by
  obtain ⟨h1, h2⟩ := foldA_fine (vs.take i) (1, 0) (Nat.le_refl 1)
  have h5 := sum_le_take vs i
  simp only at h2
  have h6 : (arrA (vs.take i)).2 ≤ 12 := by unfold arrA; omega
  refine ⟨Nat.le_trans h1 (Nat.le_trans (fact_le h6) (by decide)), h6⟩
theorem arrA_snoc {vs : List Nat} {i : Nat} (hi : i < vs.length) : arrA (vs.take (i + 1)) = rowA (arrA (vs.take i)) vs[i] := by
  unfold arrA; rw [take_snoc vs hi, List.foldl_append]; rfl
theorem arrangements_does (v : Value) (vs : List Nat) (M : Mem) (R : Value → Mem → Prop) (hv : Rd M v (natsV vs)) (hs : vs.sum ≤ 12) (hl : vs.length ≤ 1000) (h : R (.int .i64 (arrA vs).1) M) : Does Tryz.prog 68 [v] M R := by
  refine does_fn tab_ok Tryz.func68 rfl (by kernel_rfl) (by kernel_rfl) Tryz.ntmps68 Tryz.results68 rfl ?_
  obtain ⟨a, c, rfl, ha⟩ := hv.opened
  rw [natsV_length] at ha ⊢
  simp (disch := omega)
  refine loop_to tab_ok [3, 4, 6, 7, 10, 11, 12, 13, 14, 15, 16, 17, 18, 19, 20, 21, 22, 23, 24, 25, 26, 27] (fun i : Nat => [(10, .int .i64 i), (3, .int .i64 (arrA (vs.take i)).1), (4, .int .i64 (arrA (vs.take i)).2)]) (fun i M' => M' = M ∧ i ≤ vs.length) (fun i => vs.length - i) 0 (by kernel_rfl) (by simp (disch := omega); exact ⟨rfl, rfl⟩) ⟨rfl, by omega⟩ ?_
  rintro i M' g ⟨rfl, hi⟩
  by_cases hlt : i < vs.length
  · rcases ha with h0 | ⟨b, o, rfl, ha⟩
    · omega
    have hg := ha i hlt
    rw [natsV_get, List.getElem?_eq_getElem hlt] at hg
    simp (disch := omega) [hg]
    refine loop_to tab_ok [3, 4, 7, 15, 16, 17, 18, 19, 20, 21, 22, 23, 24, 25, 26] (fun j : Nat => [(15, .int .i64 j), (3, .int .i64 (rowA (arrA (vs.take i)) j).1), (4, .int .i64 (rowA (arrA (vs.take i)) j).2)]) (fun j M1 => M1 = M' ∧ j ≤ vs[i]) (fun j => vs[i] - j) 0 (by kernel_rfl) (by simp (disch := omega); exact ⟨rfl, rfl⟩) ⟨rfl, by omega⟩ ?_
    rintro j M1 g' ⟨rfl, hj⟩
    have hle : vs[i] ≤ 12 := by have := sum_take_le vs i hlt; omega
    by_cases hjl : j < vs[i]
    · obtain ⟨k1, k2⟩ := arrA_step hs hlt hjl
      obtain ⟨p, hp⟩ : ∃ p, p = (rowA (arrA (vs.take i)) j).1 * ((rowA (arrA (vs.take i)) j).2 + 1) := ⟨_, rfl⟩
      have e1 : ((rowA (arrA (vs.take i)) j).1 : Int) * ((rowA (arrA (vs.take i)) j).2 + 1) = (p : Int) := by rw [hp]; push_cast; rfl
      have e2 : (p : Int).tdiv (j + 1) = ((rowA (arrA (vs.take i)) (j + 1)).1 : Int) := by
        rw [rowA_succ, Int.tdiv_eq_ediv_of_nonneg (by omega)]; simp only [stepA]; rw [← hp]; push_cast; rfl
      rw [← hp] at k1
      have e3 : ((rowA (arrA (vs.take i)) j).2 : Int) + 1 = ((rowA (arrA (vs.take i)) (j + 1)).2 : Int) := by rw [rowA_succ]; simp only [stepA]; push_cast; rfl
      have k3 : (rowA (arrA (vs.take i)) (j + 1)).1 ≤ 479001600 := by rw [rowA_succ]; simp only [stepA]; rw [← hp]; exact Nat.le_trans (Nat.div_le_self _ _) k1
      simp (disch := omega) [e1, e2]
      refine Rnd.mk' (j + 1) (by omega) (by (repeat (first | exact km | refine kp rfl ?_ | refine km' rfl ?_))) (by simp (disch := omega) [e3]) ⟨rfl, by omega⟩
    · have hj' : j = vs[i] := by omega
      subst hj'
      simp (disch := omega)
      refine Rnd.mk' (i + 1) (by omega) (by (repeat (first | exact km | refine kp rfl ?_ | refine km' rfl ?_))) ?_ ⟨rfl, by omega⟩
      rw [arrA_snoc hlt]
      simp (disch := omega)
  · have hi' : i = vs.length := by omega
    subst hi'
    have := arrA_fine hs vs.length
    rw [List.take_length] at this
    simp (disch := omega)
    exact ret_of h
theorem l07Number_does (v : Value) (vs : List Nat) (M : Mem) (R : Value → Mem → Prop) (hv : Rd M v (natsV vs)) (hs : vs.sum ≤ 12) (hl : vs.length ≤ 1000) (h : R (.int .i64 (arrA vs).1) M) : Does Tryz.prog 71 [v] M R := by
  refine does_fn tab_ok Tryz.func71 rfl (by kernel_rfl) (by kernel_rfl) Tryz.ntmps71 Tryz.results71 rfl ?_
  obtain ⟨a, c, rfl, ha⟩ := hv.opened
  rw [natsV_length] at ha ⊢
  simp (disch := omega)
  refine loop_to tab_ok [3, 4, 5, 6, 7, 8, 9, 10, 11, 12, 13, 14, 15, 16, 17, 18, 19, 20, 21, 22, 23, 24, 25, 26, 27] (fun i : Nat => [(5, .int .i64 i), (3, .int .i64 (arrA (vs.take i)).1), (4, .int .i64 (arrA (vs.take i)).2)]) (fun i M' => M' = M ∧ i ≤ vs.length) (fun i => vs.length - i) 0 (by kernel_rfl) (by simp (disch := omega); exact ⟨rfl, rfl⟩) ⟨rfl, by omega⟩ ?_
  rintro i M' g ⟨rfl, hi⟩
  by_cases hlt : i < vs.length
  · rcases ha with h0 | ⟨b, o, rfl, ha⟩
    · omega
    have hg := ha i hlt
    rw [natsV_get, List.getElem?_eq_getElem hlt] at hg
    simp (disch := omega) [hg]
    refine loop_to tab_ok [3, 4, 6, 13, 14, 15, 16, 17, 18, 19, 20, 21, 22, 23, 24, 25, 26, 27] (fun j : Nat => [(6, .int .i64 (j + 1)), (3, .int .i64 (rowA (arrA (vs.take i)) j).1), (4, .int .i64 (rowA (arrA (vs.take i)) j).2)]) (fun j M1 => M1 = M' ∧ j ≤ vs[i]) (fun j => vs[i] - j) 0 (by kernel_rfl) (by simp (disch := omega); exact ⟨rfl, rfl⟩) ⟨rfl, by omega⟩ ?_
    rintro j M1 g' ⟨rfl, hj⟩
    have hle : vs[i] ≤ 12 := by have := sum_take_le vs i hlt; omega
    by_cases hjl : j < vs[i]
    · obtain ⟨k1, k2⟩ := arrA_step hs hlt hjl
      obtain ⟨p, hp⟩ : ∃ p, p = (rowA (arrA (vs.take i)) j).1 * ((rowA (arrA (vs.take i)) j).2 + 1) := ⟨_, rfl⟩
      have e1 : ((rowA (arrA (vs.take i)) j).1 : Int) * ((rowA (arrA (vs.take i)) j).2 + 1) = (p : Int) := by rw [hp]; push_cast; rfl
      have e2 : (p : Int).tdiv (j + 1) = ((rowA (arrA (vs.take i)) (j + 1)).1 : Int) := by
        rw [rowA_succ, Int.tdiv_eq_ediv_of_nonneg (by omega)]; simp only [stepA]; rw [← hp]; push_cast; rfl
      rw [← hp] at k1
      have e3 : ((rowA (arrA (vs.take i)) j).2 : Int) + 1 = ((rowA (arrA (vs.take i)) (j + 1)).2 : Int) := by rw [rowA_succ]; simp only [stepA]; push_cast; rfl
      have k3 : (rowA (arrA (vs.take i)) (j + 1)).1 ≤ 479001600 := by rw [rowA_succ]; simp only [stepA]; rw [← hp]; exact Nat.le_trans (Nat.div_le_self _ _) k1
      simp (disch := omega) [hg, e1, e2]
      refine Rnd.mk' (j + 1) (by omega) (by (repeat (first | exact km | refine kp rfl ?_ | refine km' rfl ?_))) (by simp (disch := omega) [e3]) ⟨rfl, by omega⟩
    · have hj' : j = vs[i] := by omega
      subst hj'
      simp (disch := omega) [hg]
      refine Rnd.mk' (i + 1) (by omega) (by (repeat (first | exact km | refine kp rfl ?_ | refine km' rfl ?_))) ?_ ⟨rfl, by omega⟩
      rw [arrA_snoc hlt]
      simp (disch := omega)
  · have hi' : i = vs.length := by omega
    subst hi'
    have := arrA_fine hs vs.length
    rw [List.take_length] at this
    simp (disch := omega)
    exact ret_of h
def ncounts (l : List UInt8) : List Nat := (List.range 5).map fun k => l.countP fun u => u.toNat == 97 + k
theorem counts_nats (l : List UInt8) : ints (counts l) = natsV (ncounts l) := rfl
theorem ncounts_sum (l : List UInt8) : (ncounts l).sum ≤ l.length := by
  induction l with
  | nil => decide
  | cons u l ih =>
    simp only [ncounts, List.range, List.range.loop, List.map_cons, List.map_nil, List.sum_cons, List.sum_nil, List.countP_cons, List.length_cons, beq_iff_eq] at ih ⊢
    repeat' split
    all_goals omega
theorem counts_le (l : List UInt8) : (counts l).length ≤ 1099511627776 := by rw [counts_length]; omega
def tup2 (v : Value) (c : Int) : Value := .tuple #[v, .int .i64 c]
def codeW (ws : List (List UInt8)) : Int := if ws.all isWord then 0 else 1
theorem codeOf_true (ws : List (List UInt8)) : codeOf ws true = codeW ws := by simp [codeOf, codeW]
theorem all1 (l : List UInt8) : [l].all isWord = isWord l := by simp
theorem all2 (l k : List UInt8) : [l, k].all isWord = (isWord l && isWord k) := by simp
theorem impl_areAlike_does (l k : List UInt8) (M : Mem) (R : Value → Mem → Prop) (hl : l.length ≤ 1099511627776) (hk : k.length ≤ 1099511627776) (hw : l.all isL = true) (hw' : k.all isL = true)
    (h : R (.bool (counts l == counts k)) M) : Does Tryz.prog 58 [str l, str k] M R := by
  refine does_fn tab_ok Tryz.func58 rfl (by kernel_rfl) (by kernel_rfl) Tryz.ntmps58 Tryz.results58 rfl ?_
  simp (disch := omega)
  refine count_does l _ _ hl hw ?_
  intro v1 M1 o1
  simp (disch := omega)
  refine count_does k _ _ hk hw' ?_
  intro v2 M2 o2
  simp (disch := omega)
  refine equalI_does v1 v2 _ _ _ _ (o1.rd.sub o2.sub) o2.rd (counts_le _) (counts_le _) ?_
  simp (disch := omega)
  exact ret_sub (o1.sub.trans o2.sub) h
/-- Are two words alike? -/
def alikeB (l k : List UInt8) : Bool := (isWord l && isWord k) && (counts l == counts k)
def alikeC (l k : List UInt8) : Int := if isWord l && isWord k then 0 else 1
theorem impl_AreAlike (l k : List UInt8) (M : Mem) (R : Value → Mem → Prop) (hl : l.length ≤ 1099511627776) (hk : k.length ≤ 1099511627776) (h : R (tup2 (.bool (alikeB l k)) (alikeC l k)) M) : Does Tryz.prog 7 [str l, str k] M R := by
  refine does_fn tab_ok Tryz.func7 rfl (by kernel_rfl) (by kernel_rfl) Tryz.ntmps7 Tryz.results7 rfl ?_
  simp (disch := omega)
  intro b1 hb1
  simp (disch := omega)
  have hs1 : Sub M (M.put b1 (.cells true [str l, str k] 2)) := (Sub.refl _).put hb1 _
  refine wordCode_does _ _ [l, k] true (fun _ => True) _ _ (Rd.new rfl (Nat.le_refl 2)) (fine2 hl hk) (by simp) trivial stab_true (always_tells _) ?_
  rw [codeOf_true]
  unfold codeW
  rw [all2]
  unfold tup2 alikeB alikeC at h
  cases hw : (isWord l && isWord k)
  · rw [hw] at h
    simp (disch := omega)
    exact ret_sub hs1 h
  · rw [hw] at h
    rw [Bool.and_eq_true] at hw
    simp (disch := omega)
    refine impl_areAlike_does l k _ _ hl hk (isWord_all hw.1) (isWord_all hw.2) ?_
    simp (disch := omega)
    exact ret_sub hs1 h
theorem spec_AreAlike (l k : List UInt8) (M : Mem) (R : Value → Mem → Prop) (hl : l.length ≤ 1099511627776) (hk : k.length ≤ 1099511627776) (h : R (tup2 (.bool (alikeB l k)) (alikeC l k)) M) : Does Tryz.prog 8 [str l, str k] M R := by
  refine does_fn tab_ok Tryz.func8 rfl (by kernel_rfl) (by kernel_rfl) Tryz.ntmps8 Tryz.results8 rfl ?_
  simp (disch := omega)
  refine l01Is_does l _ _ hl ?_
  unfold tup2 alikeB alikeC at h
  cases hw : isWord l
  · rw [hw] at h
    simp (disch := omega)
    exact ret_of h
  · rw [hw] at h
    simp (disch := omega)
    refine l01Is_does k _ _ hk ?_
    cases hw' : isWord k
    · rw [hw'] at h
      simp (disch := omega)
      exact ret_of h
    · rw [hw'] at h
      simp (disch := omega)
      refine l01Count_does l _ _ hl (isWord_all hw) ?_
      intro v1 M1 o1
      simp (disch := omega)
      refine l01Count_does k _ _ hk (isWord_all hw') ?_
      intro v2 M2 o2
      simp (disch := omega)
      refine l07Same_does v1 v2 _ _ _ _ (o1.rd.sub o2.sub) o2.rd rfl (counts_le _) ?_
      simp (disch := omega)
      exact ret_sub (o1.sub.trans o2.sub) h
theorem impl_CountLetters (l : List UInt8) (M : Mem) (R : Value → Mem → Prop) (hl : l.length ≤ 1099511627776) (h : Lst (wcode l) (ints (if isWord l then counts l else [])) M R) : Does Tryz.prog 39 [str l] M R := by
  refine does_fn tab_ok Tryz.func39 rfl (by kernel_rfl) (by kernel_rfl) Tryz.ntmps39 Tryz.results39 rfl ?_
  simp (disch := omega)
  intro b1 hb1
  simp (disch := omega)
  have hs1 : Sub M (M.put b1 (.cells true [str l] 1)) := (Sub.refl _).put hb1 _
  refine wordCode_does _ _ [l] true (fun _ => True) _ _ (Rd.new rfl (Nat.le_refl 1)) (fine1 hl) (by simp) trivial stab_true (always_tells _) ?_
  rw [codeOf1]
  cases hw : isWord l
  · simp (disch := omega)
    unfold wcode at h
    rw [hw] at h
    have := h _ _ (Own.nil M)
    exact ret_sub hs1 this
  · unfold wcode at h
    rw [hw] at h
    simp (disch := omega)
    refine count_does l _ _ hl (isWord_all hw) ?_
    intro v1 M1 o1
    simp (disch := omega)
    obtain ⟨M'', ho', hs'⟩ := o1.base hs1
    exact ret_sub hs' (h v1 M'' ho')
/-- The number of words that are alike, and the code. -/
def alikeN (l : List UInt8) : Int := if isWord l then (if l.length ≤ 12 then ((arrA (ncounts l)).1 : Int) else 0) else 0
def alikeNC (l : List UInt8) : Int := if isWord l then (if l.length ≤ 12 then 0 else 3) else 1
theorem impl_CountAlike (l : List UInt8) (M : Mem) (R : Value → Mem → Prop) (hl : l.length ≤ 1099511627776) (h : R (tup2 (.int .i64 (alikeN l)) (alikeNC l)) M) : Does Tryz.prog 14 [str l] M R := by
  refine does_fn tab_ok Tryz.func14 rfl (by kernel_rfl) (by kernel_rfl) Tryz.ntmps14 Tryz.results14 rfl ?_
  simp (disch := omega)
  intro b1 hb1
  simp (disch := omega)
  have hs1 : Sub M (M.put b1 (.cells true [str l] 1)) := (Sub.refl _).put hb1 _
  refine wordCode_does _ _ [l] true (fun _ => True) _ _ (Rd.new rfl (Nat.le_refl 1)) (fine1 hl) (by simp) trivial stab_true (always_tells _) ?_
  rw [codeOf1]
  unfold tup2 alikeN alikeNC at h
  cases hw : isWord l
  · rw [hw] at h
    simp (disch := omega)
    exact ret_sub hs1 h
  · rw [hw] at h
    by_cases h12 : l.length ≤ 12
    · rw [if_pos rfl, if_pos rfl, if_pos h12, if_pos h12] at h
      simp (disch := omega)
      refine count_does l _ _ hl (isWord_all hw) ?_
      intro v1 M1 o1
      simp (disch := omega)
      refine arrangements_does v1 (ncounts l) _ _ (by rw [← counts_nats]; exact o1.rd) (Nat.le_trans (ncounts_sum l) h12) (by simp [ncounts]) ?_
      simp (disch := omega)
      exact ret_sub (hs1.trans o1.sub) h
    · rw [if_pos rfl, if_pos rfl, if_neg h12, if_neg h12] at h
      have h12' : (12 : Int) < l.length := by omega
      simp (disch := omega)
      exact ret_sub hs1 h
theorem spec_CountAlike (l : List UInt8) (M : Mem) (R : Value → Mem → Prop) (hl : l.length ≤ 1099511627776) (h : R (tup2 (.int .i64 (alikeN l)) (alikeNC l)) M) : Does Tryz.prog 26 [str l] M R := by
  refine does_fn tab_ok Tryz.func26 rfl (by kernel_rfl) (by kernel_rfl) Tryz.ntmps26 Tryz.results26 rfl ?_
  simp (disch := omega)
  refine l01Is_does l _ _ hl ?_
  unfold tup2 alikeN alikeNC at h
  cases hw : isWord l
  · rw [hw] at h
    simp (disch := omega)
    exact ret_of h
  · rw [hw] at h
    by_cases h12 : l.length ≤ 12
    · rw [if_pos rfl, if_pos rfl, if_pos h12, if_pos h12] at h
      simp (disch := omega)
      refine l01Count_does l _ _ hl (isWord_all hw) ?_
      intro v1 M1 o1
      simp (disch := omega)
      refine l07Number_does v1 (ncounts l) _ _ (by rw [← counts_nats]; exact o1.rd) (Nat.le_trans (ncounts_sum l) h12) (by simp [ncounts]) ?_
      simp (disch := omega)
      exact ret_sub o1.sub h
    · rw [if_pos rfl, if_pos rfl, if_neg h12, if_neg h12] at h
      have h12' : (12 : Int) < l.length := by omega
      simp (disch := omega)
      exact ret_of h
end Go.Proofs.YthpcojnpiggaiaaGreat

/- Contracts: small functions, tests of all elements of a list, words and their code. -/
import Derived.Test.YtbefijbmgmbphaaTab
namespace Go.Proofs.Ytbefijbmgmbphaa
open Go
set_option linter.unusedSimpArgs false
set_option linter.unusedVariables false

/-- A slice that reads as a list of cells. -/
def Rd (M : Mem) (v : Value) (xs : List Value) : Prop :=
  (∃ a c, v = .slice a 0 c ∧ xs = []) ∨ ∃ b o c, v = .slice (some ⟨b, o, none⟩) xs.length c ∧ M.sub? b o xs.length = some xs ∧ xs.length ≤ c
theorem sub_get {M : Mem} {b o : Nat} {xs : List Value} (h : M.sub? b o xs.length = some xs) {i : Nat} {x : Value} (hx : xs[i]? = some x) : M.get? b (o + i) = some x := by
  unfold Mem.sub? at h
  unfold Mem.get?
  split at h
  · rename_i own ys tot hb
    split at h
    · rename_i hle
      injection h with h
      have hi : i < xs.length := by
        rcases Nat.lt_or_ge i xs.length with h | h
        · exact h
        · rw [List.getElem?_eq_none h] at hx; cases hx
      rw [← h, List.getElem?_take_of_lt (by rw [← h] at hi ⊢; rw [List.length_take] at hi ⊢; omega), List.getElem?_drop] at hx
      simp only [hb]
      exact hx
    · cases h
  · cases h
theorem Rd.sub {M N : Mem} {v : Value} {xs : List Value} (h : Rd M v xs) (hs : Sub M N) : Rd N v xs := by
  rcases h with h | ⟨b, o, c, h1, h2, h3⟩
  · exact .inl h
  · refine .inr ⟨b, o, c, h1, ?_, h3⟩
    unfold Mem.sub? at *
    split at h2
    · rename_i hb; rw [hs _ _ hb]; exact h2
    · cases h2
theorem Rd.put {M : Mem} {v : Value} {xs : List Value} (h : Rd M v xs) {b : Nat} (hb : M b = none) (B : Blk) : Rd (M.put b B) v xs := h.sub ((Sub.refl M).put hb B)
theorem Rd.new {M : Mem} {b c n : Nat} {w : Bool} {xs : List Value} (hn : xs.length = n) (hc : n ≤ c) : Rd (M.put b (.cells w xs c)) (.slice (some ⟨b, 0, none⟩) n c) xs := by
  subst hn
  exact .inr ⟨b, 0, c, rfl, by simp [Mem.sub?, put_same], hc⟩
/-- A slice of its own: nil, or all of a new block. -/
def Own (M : Mem) (v : Value) (xs : List Value) (M' : Mem) : Prop :=
  (v = .slice none 0 0 ∧ xs = [] ∧ M' = M) ∨ ∃ b c, v = .slice (some ⟨b, 0, none⟩) xs.length c ∧ M b = none ∧ xs.length ≤ c ∧ M' = M.put b (.cells true xs c)
theorem Own.nil (M : Mem) : Own M (.slice none 0 0) [] M := .inl ⟨rfl, rfl, rfl⟩
theorem Own.new {M : Mem} {b c n : Nat} {xs : List Value} (hb : M b = none) (hn : xs.length = n) (hc : n ≤ c) : Own M (.slice (some ⟨b, 0, none⟩) n c) xs (M.put b (.cells true xs c)) := by
  subst hn; exact .inr ⟨b, c, rfl, hb, hc, rfl⟩
theorem Own.sub {M M' : Mem} {v : Value} {xs : List Value} (h : Own M v xs M') : Sub M M' := by
  rcases h with ⟨_, _, rfl⟩ | ⟨b, c, _, hb, _, rfl⟩
  · exact Sub.refl _
  · exact (Sub.refl M).put hb _
theorem Own.rd {M M' : Mem} {v : Value} {xs : List Value} (h : Own M v xs M') : Rd M' v xs := by
  rcases h with ⟨h1, h2, rfl⟩ | ⟨b, c, rfl, hb, hc, rfl⟩
  · exact .inl ⟨none, 0, h1, h2⟩
  · exact Rd.new rfl hc
def ints (zs : List Int) : List Value := zs.map (Value.int .i64)
def strs (ws : List (List UInt8)) : List Value := ws.map str
@[simp] theorem ints_length (zs : List Int) : (ints zs).length = zs.length := by simp [ints]
@[simp] theorem strs_length (ws : List (List UInt8)) : (strs ws).length = ws.length := by simp [strs]
@[simp] theorem ints_nil : ints [] = [] := nr rfl
@[simp] theorem strs_nil : strs [] = [] := nr rfl
theorem ints_cons (z : Int) (zs : List Int) : ints (z :: zs) = .int .i64 z :: ints zs := rfl
theorem strs_cons (z : List UInt8) (zs : List (List UInt8)) : strs (z :: zs) = str z :: strs zs := rfl
@[simp] theorem ints_get {zs : List Int} {i : Nat} : (ints zs)[i]? = (zs[i]?).map (Value.int .i64) := by simp [ints]
@[simp] theorem strs_get {zs : List (List UInt8)} {i : Nat} : (strs zs)[i]? = (zs[i]?).map str := by simp [strs]
@[simp] theorem bytesV_get {l : List UInt8} {i : Nat} : (bytesV l)[i]? = (l[i]?).map fun u => Value.int .u8 u.toNat := by simp [bytesV]
theorem ints_set (zs : List Int) (i : Nat) (z : Int) : (ints zs).set i (.int .i64 z) = ints (zs.set i z) := by simp [ints, List.map_set]
theorem strs_set (zs : List (List UInt8)) (i : Nat) (z : List UInt8) : (strs zs).set i (str z) = strs (zs.set i z) := by simp [strs, List.map_set]
theorem ints_append (a b : List Int) : ints a ++ ints b = ints (a ++ b) := by simp [ints]
theorem strs_append (a b : List (List UInt8)) : strs a ++ strs b = strs (a ++ b) := by simp [strs]
theorem ints_snoc (a : List Int) (z : Int) : ints a ++ [.int .i64 z] = ints (a ++ [z]) := by simp [ints]
theorem strs_snoc (a : List (List UInt8)) (z : List UInt8) : strs a ++ [str z] = strs (a ++ [z]) := by simp [strs]
theorem ints_rep (n : Nat) (z : Int) : List.replicate n (Value.int .i64 z) = ints (List.replicate n z) := by simp [ints]
theorem flat_ints (zs : List Int) : ∀ v ∈ ints zs, flatV v = true := by intro v hv; obtain ⟨_, _, rfl⟩ := List.mem_map.1 hv; rfl
theorem flat_strs (zs : List (List UInt8)) : ∀ v ∈ strs zs, flatV v = true := by intro v hv; obtain ⟨_, _, rfl⟩ := List.mem_map.1 hv; rfl
/-- A property of memory that new blocks do not touch. -/
def Stab (G : Mem → Prop) : Prop := ∀ M b B, G M → M b = none → G (M.put b B)
theorem stab_true : Stab fun _ => True := fun _ _ _ _ _ => trivial
/-- A function value that tells p of each of some values, wherever G holds. -/
def Tells (P : Program) (fv : Value) (xs : List Value) (p : Value → Bool) (G : Mem → Prop) : Prop :=
  ∀ x ∈ xs, ∀ M R, G M → R (.bool (p x)) M → vCallV P fv [x] R M
def Tells0 (P : Program) (fv : Value) (b : Bool) (G : Mem → Prop) : Prop := ∀ M R, G M → R (.bool b) M → vCallV P fv [] R M

theorem within_does (n lo hi : Int) (M : Mem) (R : Value → Mem → Prop) (h : R (.bool (decide (lo ≤ n ∧ n ≤ hi))) M) : Does Try.prog 78 [.int .i64 n, .int .i64 lo, .int .i64 hi] M R := by
  refine does_fn tab_ok Try.func78 rfl (by kernel_rfl) (by kernel_rfl) Try.ntmps78 Try.results78 rfl ?_
  by_cases h1 : lo ≤ n
  · simp (disch := omega) [h1]; exact ret_of (by simpa [h1] using h)
  · simp (disch := omega) [h1]; exact ret_of (by simpa [h1] using h)
theorem isLength_does (n : Int) (M : Mem) (R : Value → Mem → Prop) (h : R (.bool (decide (0 ≤ n ∧ n ≤ 60))) M) : Does Try.prog 67 [.int .i64 n] M R := by
  refine does_fn tab_ok Try.func67 rfl (by kernel_rfl) (by kernel_rfl) Try.ntmps67 Try.results67 rfl ?_
  simp (disch := omega)
  refine within_does _ _ _ _ _ ?_
  simp (disch := omega)
  exact ret_of (by simpa using h)
theorem size_does (l : List UInt8) (M : Mem) (R : Value → Mem → Prop) (hl : l.length ≤ 1099511627776) (h : R (.int .i64 l.length) M) : Does Try.prog 69 [str l] M R := by
  refine does_fn tab_ok Try.func69 rfl (by kernel_rfl) (by kernel_rfl) Try.ntmps69 Try.results69 rfl ?_
  simp (disch := omega)
  exact ret_of h
theorem number_does (u : UInt8) (M : Mem) (R : Value → Mem → Prop) (h : R (.int .i64 (u.toNat - 97)) M) : Does Try.prog 70 [.int .u8 u.toNat] M R := by
  have hu := u.toNat_lt
  refine does_fn tab_ok Try.func70 rfl (by kernel_rfl) (by kernel_rfl) Try.ntmps70 Try.results70 rfl ?_
  simp (disch := omega)
  exact ret_of h
theorem always_does (M : Mem) (R : Value → Mem → Prop) (h : R (.bool true) M) : Does Try.prog 74 [] M R := by
  refine does_fn tab_ok Try.func74 rfl (by kernel_rfl) (by kernel_rfl) Try.ntmps74 Try.results74 rfl ?_
  simp (disch := omega)
  exact ret_of h
theorem indexFuncB_does (v fv : Value) (xs : List Value) (p : Value → Bool) (G : Mem → Prop) (M : Mem) (R : Value → Mem → Prop) (hv : Rd M v xs) (hG : G M) (hf : Tells Try.prog fv xs p G) (hl : xs.length ≤ 1099511627776)
    (h : ∀ r : Int, decide (0 ≤ r) = xs.any p → -1 ≤ r → r ≤ xs.length → R (.int .i64 r) M) : Does Try.prog 259 [v, fv] M R := by
  refine does_fn tab_ok Try.func259 rfl (by kernel_rfl) (by kernel_rfl) Try.ntmps259 Try.results259 rfl ?_
  rcases hv with ⟨a0, c0, rfl, rfl⟩ | ⟨b, o, c, rfl, hs, hc⟩
  · simp (disch := omega)
    refine loop_to tab_ok [4, 5, 8, 9, 10, 11, 12, 13, 14, 15, 16, 17, 18] (fun i : Nat => [(8, .int .i64 i)]) (fun i M' => M' = M ∧ i = 0) (fun i => 0) 0 (by kernel_rfl) (by simp (disch := omega)) ⟨rfl, rfl⟩ ?_
    rintro i M' g ⟨rfl, rfl⟩
    simp (disch := omega)
    exact ret_of (h (-1) (by simp) (by omega) (by omega))
  · simp (disch := omega)
    refine loop_to tab_ok [4, 5, 8, 9, 10, 11, 12, 13, 14, 15, 16, 17, 18] (fun i : Nat => [(8, .int .i64 i)]) (fun i M' => M' = M ∧ i ≤ xs.length ∧ ∀ x ∈ xs.take i, p x = false) (fun i => xs.length - i) 0 (by kernel_rfl) (by simp (disch := omega)) ⟨rfl, by omega, by simp⟩ ?_
    rintro i M' g ⟨rfl, hi, hp⟩
    by_cases hlt : i < xs.length
    · have hx : xs[i]? = some xs[i] := List.getElem?_eq_getElem hlt
      have hget := sub_get hs hx
      simp (disch := omega) [hget]
      refine hf _ (List.getElem_mem hlt) _ _ hG ?_
      cases hpx : p xs[i]
      · simp (disch := omega)
        refine Rnd.mk' (i + 1) (by omega) (by (repeat (first | exact km | refine kp rfl ?_ | refine km' rfl ?_))) (by simp (disch := omega)) ⟨rfl, by omega, ?_⟩
        rw [List.take_succ_eq_append_getElem hlt]
        intro x hx'
        rcases List.mem_append.1 hx' with h1 | h1
        · exact hp x h1
        · rw [List.mem_singleton.1 h1]; exact hpx
      · simp (disch := omega)
        refine ret_of (h i ?_ (by omega) (by omega))
        have : xs.any p = true := List.any_eq_true.2 ⟨_, List.getElem_mem hlt, hpx⟩
        rw [this]; simp
    · have hi' : i = xs.length := by omega
      subst hi'
      simp (disch := omega)
      refine ret_of (h (-1) ?_ (by omega) (by omega))
      have : xs.any p = false := by
        rw [List.any_eq_false]
        intro x hx'
        rw [hp x (by rwa [List.take_length])]; simp
      rw [this]; rfl
theorem indexFuncS_does (v fv : Value) (xs : List Value) (p : Value → Bool) (G : Mem → Prop) (M : Mem) (R : Value → Mem → Prop) (hv : Rd M v xs) (hG : G M) (hf : Tells Try.prog fv xs p G) (hl : xs.length ≤ 1099511627776)
    (h : ∀ r : Int, decide (0 ≤ r) = xs.any p → -1 ≤ r → r ≤ xs.length → R (.int .i64 r) M) : Does Try.prog 167 [v, fv] M R := by
  refine does_fn tab_ok Try.func167 rfl (by kernel_rfl) (by kernel_rfl) Try.ntmps167 Try.results167 rfl ?_
  rcases hv with ⟨a0, c0, rfl, rfl⟩ | ⟨b, o, c, rfl, hs, hc⟩
  · simp (disch := omega)
    refine loop_to tab_ok [4, 5, 8, 9, 10, 11, 12, 13, 14, 15, 16, 17, 18] (fun i : Nat => [(8, .int .i64 i)]) (fun i M' => M' = M ∧ i = 0) (fun i => 0) 0 (by kernel_rfl) (by simp (disch := omega)) ⟨rfl, rfl⟩ ?_
    rintro i M' g ⟨rfl, rfl⟩
    simp (disch := omega)
    exact ret_of (h (-1) (by simp) (by omega) (by omega))
  · simp (disch := omega)
    refine loop_to tab_ok [4, 5, 8, 9, 10, 11, 12, 13, 14, 15, 16, 17, 18] (fun i : Nat => [(8, .int .i64 i)]) (fun i M' => M' = M ∧ i ≤ xs.length ∧ ∀ x ∈ xs.take i, p x = false) (fun i => xs.length - i) 0 (by kernel_rfl) (by simp (disch := omega)) ⟨rfl, by omega, by simp⟩ ?_
    rintro i M' g ⟨rfl, hi, hp⟩
    by_cases hlt : i < xs.length
    · have hx : xs[i]? = some xs[i] := List.getElem?_eq_getElem hlt
      have hget := sub_get hs hx
      simp (disch := omega) [hget]
      refine hf _ (List.getElem_mem hlt) _ _ hG ?_
      cases hpx : p xs[i]
      · simp (disch := omega)
        refine Rnd.mk' (i + 1) (by omega) (by (repeat (first | exact km | refine kp rfl ?_ | refine km' rfl ?_))) (by simp (disch := omega)) ⟨rfl, by omega, ?_⟩
        rw [List.take_succ_eq_append_getElem hlt]
        intro x hx'
        rcases List.mem_append.1 hx' with h1 | h1
        · exact hp x h1
        · rw [List.mem_singleton.1 h1]; exact hpx
      · simp (disch := omega)
        refine ret_of (h i ?_ (by omega) (by omega))
        have : xs.any p = true := List.any_eq_true.2 ⟨_, List.getElem_mem hlt, hpx⟩
        rw [this]; simp
    · have hi' : i = xs.length := by omega
      subst hi'
      simp (disch := omega)
      refine ret_of (h (-1) ?_ (by omega) (by omega))
      have : xs.any p = false := by
        rw [List.any_eq_false]
        intro x hx'
        rw [hp x (by rwa [List.take_length])]; simp
      rw [this]; rfl
theorem indexFuncN_does (v fv : Value) (xs : List Value) (p : Value → Bool) (G : Mem → Prop) (M : Mem) (R : Value → Mem → Prop) (hv : Rd M v xs) (hG : G M) (hf : Tells Try.prog fv xs p G) (hl : xs.length ≤ 1099511627776)
    (h : ∀ r : Int, decide (0 ≤ r) = xs.any p → -1 ≤ r → r ≤ xs.length → R (.int .i64 r) M) : Does Try.prog 258 [v, fv] M R := by
  refine does_fn tab_ok Try.func258 rfl (by kernel_rfl) (by kernel_rfl) Try.ntmps258 Try.results258 rfl ?_
  rcases hv with ⟨a0, c0, rfl, rfl⟩ | ⟨b, o, c, rfl, hs, hc⟩
  · simp (disch := omega)
    refine loop_to tab_ok [4, 5, 8, 9, 10, 11, 12, 13, 14, 15, 16, 17, 18] (fun i : Nat => [(8, .int .i64 i)]) (fun i M' => M' = M ∧ i = 0) (fun i => 0) 0 (by kernel_rfl) (by simp (disch := omega)) ⟨rfl, rfl⟩ ?_
    rintro i M' g ⟨rfl, rfl⟩
    simp (disch := omega)
    exact ret_of (h (-1) (by simp) (by omega) (by omega))
  · simp (disch := omega)
    refine loop_to tab_ok [4, 5, 8, 9, 10, 11, 12, 13, 14, 15, 16, 17, 18] (fun i : Nat => [(8, .int .i64 i)]) (fun i M' => M' = M ∧ i ≤ xs.length ∧ ∀ x ∈ xs.take i, p x = false) (fun i => xs.length - i) 0 (by kernel_rfl) (by simp (disch := omega)) ⟨rfl, by omega, by simp⟩ ?_
    rintro i M' g ⟨rfl, hi, hp⟩
    by_cases hlt : i < xs.length
    · have hx : xs[i]? = some xs[i] := List.getElem?_eq_getElem hlt
      have hget := sub_get hs hx
      simp (disch := omega) [hget]
      refine hf _ (List.getElem_mem hlt) _ _ hG ?_
      cases hpx : p xs[i]
      · simp (disch := omega)
        refine Rnd.mk' (i + 1) (by omega) (by (repeat (first | exact km | refine kp rfl ?_ | refine km' rfl ?_))) (by simp (disch := omega)) ⟨rfl, by omega, ?_⟩
        rw [List.take_succ_eq_append_getElem hlt]
        intro x hx'
        rcases List.mem_append.1 hx' with h1 | h1
        · exact hp x h1
        · rw [List.mem_singleton.1 h1]; exact hpx
      · simp (disch := omega)
        refine ret_of (h i ?_ (by omega) (by omega))
        have : xs.any p = true := List.any_eq_true.2 ⟨_, List.getElem_mem hlt, hpx⟩
        rw [this]; simp
    · have hi' : i = xs.length := by omega
      subst hi'
      simp (disch := omega)
      refine ret_of (h (-1) ?_ (by omega) (by omega))
      have : xs.any p = false := by
        rw [List.any_eq_false]
        intro x hx'
        rw [hp x (by rwa [List.take_length])]; simp
      rw [this]; rfl
theorem containsFuncB_does (v fv : Value) (xs : List Value) (p : Value → Bool) (G : Mem → Prop) (M : Mem) (R : Value → Mem → Prop) (hv : Rd M v xs) (hG : G M) (hf : Tells Try.prog fv xs p G) (hl : xs.length ≤ 1099511627776)
    (h : R (.bool (xs.any p)) M) : Does Try.prog 237 [v, fv] M R := by
  refine does_fn tab_ok Try.func237 rfl (by kernel_rfl) (by kernel_rfl) Try.ntmps237 Try.results237 rfl ?_
  simp (disch := omega)
  refine indexFuncB_does v fv xs p G M _ hv hG hf hl fun r h1 h2 h3 => ?_
  simp (disch := omega)
  rw [h1]
  exact ret_of h
theorem containsFuncS_does (v fv : Value) (xs : List Value) (p : Value → Bool) (G : Mem → Prop) (M : Mem) (R : Value → Mem → Prop) (hv : Rd M v xs) (hG : G M) (hf : Tells Try.prog fv xs p G) (hl : xs.length ≤ 1099511627776)
    (h : R (.bool (xs.any p)) M) : Does Try.prog 203 [v, fv] M R := by
  refine does_fn tab_ok Try.func203 rfl (by kernel_rfl) (by kernel_rfl) Try.ntmps203 Try.results203 rfl ?_
  simp (disch := omega)
  refine indexFuncS_does v fv xs p G M _ hv hG hf hl fun r h1 h2 h3 => ?_
  simp (disch := omega)
  rw [h1]
  exact ret_of h
theorem containsFuncN_does (v fv : Value) (xs : List Value) (p : Value → Bool) (G : Mem → Prop) (M : Mem) (R : Value → Mem → Prop) (hv : Rd M v xs) (hG : G M) (hf : Tells Try.prog fv xs p G) (hl : xs.length ≤ 1099511627776)
    (h : R (.bool (xs.any p)) M) : Does Try.prog 235 [v, fv] M R := by
  refine does_fn tab_ok Try.func235 rfl (by kernel_rfl) (by kernel_rfl) Try.ntmps235 Try.results235 rfl ?_
  simp (disch := omega)
  refine indexFuncN_does v fv xs p G M _ hv hG hf hl fun r h1 h2 h3 => ?_
  simp (disch := omega)
  rw [h1]
  exact ret_of h
theorem areAllB_does (v fv : Value) (xs : List Value) (p : Value → Bool) (G : Mem → Prop) (M : Mem) (R : Value → Mem → Prop) (hv : Rd M v xs) (hG : G M) (hst : Stab G) (hf : Tells Try.prog fv xs p G) (hff : flatV fv = true) (hl : xs.length ≤ 1099511627776)
    (h : R (.bool (xs.all p)) M) : Does Try.prog 205 [v, fv] M R := by
  refine does_fn tab_ok Try.func205 rfl (by kernel_rfl) (by kernel_rfl) Try.ntmps205 Try.results205 rfl ?_
  simp (disch := omega) [hff]
  intro b hb
  simp (disch := omega)
  refine containsFuncB_does v _ xs (fun x => !p x) (fun M' => G M' ∧ M'.get? b 0 = some fv) _ _ (hv.put hb _) ⟨hst _ _ _ hG hb, by simp (disch := omega)⟩ ?_ hl ?_
  · rintro x hx M' R' ⟨h1, h2⟩ h3
    simp (disch := omega)
    refine does_fn tab_ok Try.func238 rfl (by kernel_rfl) (by kernel_rfl) Try.ntmps238 Try.results238 rfl ?_
    simp (disch := omega) [h2]
    refine hf x hx _ _ h1 ?_
    simp (disch := omega)
    exact ret_of h3
  · simp (disch := omega)
    refine ret_sub ((Sub.refl M).put hb _) ?_
    have e : (!xs.any fun x => !p x) = xs.all p := by rw [List.all_eq_not_any_not]
    rw [e]; exact h
theorem areAllS_does (v fv : Value) (xs : List Value) (p : Value → Bool) (G : Mem → Prop) (M : Mem) (R : Value → Mem → Prop) (hv : Rd M v xs) (hG : G M) (hst : Stab G) (hf : Tells Try.prog fv xs p G) (hff : flatV fv = true) (hl : xs.length ≤ 1099511627776)
    (h : R (.bool (xs.all p)) M) : Does Try.prog 151 [v, fv] M R := by
  refine does_fn tab_ok Try.func151 rfl (by kernel_rfl) (by kernel_rfl) Try.ntmps151 Try.results151 rfl ?_
  simp (disch := omega) [hff]
  intro b hb
  simp (disch := omega)
  refine containsFuncS_does v _ xs (fun x => !p x) (fun M' => G M' ∧ M'.get? b 0 = some fv) _ _ (hv.put hb _) ⟨hst _ _ _ hG hb, by simp (disch := omega)⟩ ?_ hl ?_
  · rintro x hx M' R' ⟨h1, h2⟩ h3
    simp (disch := omega)
    refine does_fn tab_ok Try.func204 rfl (by kernel_rfl) (by kernel_rfl) Try.ntmps204 Try.results204 rfl ?_
    simp (disch := omega) [h2]
    refine hf x hx _ _ h1 ?_
    simp (disch := omega)
    exact ret_of h3
  · simp (disch := omega)
    refine ret_sub ((Sub.refl M).put hb _) ?_
    have e : (!xs.any fun x => !p x) = xs.all p := by rw [List.all_eq_not_any_not]
    rw [e]; exact h
theorem areAllN_does (v fv : Value) (xs : List Value) (p : Value → Bool) (G : Mem → Prop) (M : Mem) (R : Value → Mem → Prop) (hv : Rd M v xs) (hG : G M) (hst : Stab G) (hf : Tells Try.prog fv xs p G) (hff : flatV fv = true) (hl : xs.length ≤ 1099511627776)
    (h : R (.bool (xs.all p)) M) : Does Try.prog 201 [v, fv] M R := by
  refine does_fn tab_ok Try.func201 rfl (by kernel_rfl) (by kernel_rfl) Try.ntmps201 Try.results201 rfl ?_
  simp (disch := omega) [hff]
  intro b hb
  simp (disch := omega)
  refine containsFuncN_does v _ xs (fun x => !p x) (fun M' => G M' ∧ M'.get? b 0 = some fv) _ _ (hv.put hb _) ⟨hst _ _ _ hG hb, by simp (disch := omega)⟩ ?_ hl ?_
  · rintro x hx M' R' ⟨h1, h2⟩ h3
    simp (disch := omega)
    refine does_fn tab_ok Try.func236 rfl (by kernel_rfl) (by kernel_rfl) Try.ntmps236 Try.results236 rfl ?_
    simp (disch := omega) [h2]
    refine hf x hx _ _ h1 ?_
    simp (disch := omega)
    exact ret_of h3
  · simp (disch := omega)
    refine ret_sub ((Sub.refl M).put hb _) ?_
    have e : (!xs.any fun x => !p x) = xs.all p := by rw [List.all_eq_not_any_not]
    rw [e]; exact h
/-- Is a byte one of the letters a to e? -/
def isL (u : UInt8) : Bool := decide (97 ≤ u.toNat) && decide (u.toNat < 102)
def isWord (l : List UInt8) : Bool := decide (l.length ≤ 60) && l.all isL
def onB (q : UInt8 → Bool) : Value → Bool
  | .int _ n => q (UInt8.ofNat n.toNat)
  | _ => false
theorem onB_byte (q : UInt8 → Bool) (u : UInt8) : onB q (.int .u8 u.toNat) = q u := by simp [onB]
theorem all_bytes (q : UInt8 → Bool) (l : List UInt8) : (bytesV l).all (onB q) = l.all q := by
  induction l with
  | nil => rfl
  | cons u l ih => simp only [bytesV, List.map_cons, List.all_cons, onB_byte] at *; rw [ih]
theorem mem_bytes {l : List UInt8} {x : Value} (h : x ∈ bytesV l) : ∃ u ∈ l, x = .int .u8 u.toNat := by
  obtain ⟨u, h1, h2⟩ := List.mem_map.1 h; exact ⟨u, h1, h2.symm⟩
theorem isWord1_tells (l : List UInt8) : Tells Try.prog (.func (.func 206) #[] #[]) (bytesV l) (onB isL) (fun _ => True) := by
  intro x hx M R _ h
  obtain ⟨u, _, rfl⟩ := mem_bytes hx
  rw [onB_byte] at h
  simp (disch := omega)
  refine does_fn tab_ok Try.func206 rfl (by kernel_rfl) (by kernel_rfl) Try.ntmps206 Try.results206 rfl ?_
  by_cases h1 : 97 ≤ (u.toNat : Int)
  · have e : isL u = decide ((u.toNat : Int) < 102) := by unfold isL; rw [decide_eq_true (by omega : 97 ≤ u.toNat)]; simp only [Bool.true_and, decide_eq_decide]; omega
    rw [e] at h
    simp (disch := omega) [h1]
    exact ret_of h
  · have e : isL u = false := by unfold isL; rw [decide_eq_false (by omega : ¬ 97 ≤ u.toNat)]; rfl
    rw [e] at h
    simp (disch := omega) [h1]
    exact ret_of h
theorem isWord_does (l : List UInt8) (M : Mem) (R : Value → Mem → Prop) (hl : l.length ≤ 1099511627776) (h : R (.bool (isWord l)) M) : Does Try.prog 152 [str l] M R := by
  refine does_fn tab_ok Try.func152 rfl (by kernel_rfl) (by kernel_rfl) Try.ntmps152 Try.results152 rfl ?_
  by_cases h1 : l.length ≤ 60
  · have e : isWord l = l.all isL := by unfold isWord; rw [decide_eq_true h1]; rfl
    rw [e] at h
    have h1' : (l.length : Int) ≤ 60 := by omega
    simp (disch := omega) [h1']
    intro b c hb hc
    simp (disch := omega)
    refine areAllB_does _ _ (bytesV l) (onB isL) (fun _ => True) _ _ (Rd.new (bytesV_length l) (by simp (disch := omega) at hc; omega)) trivial stab_true (isWord1_tells l) rfl (by rw [bytesV_length]; omega) ?_
    rw [all_bytes]
    simp (disch := omega) [h1']
    exact ret_sub ((Sub.refl M).put hb _) h
  · have e : isWord l = false := by unfold isWord; rw [decide_eq_false h1]; rfl
    rw [e] at h
    have h1' : ¬ (l.length : Int) ≤ 60 := by omega
    simp (disch := omega) [h1']
    exact ret_of h
theorem letter_does (n : Int) (M : Mem) (R : Value → Mem → Prop) (h0 : 0 ≤ n) (h1 : n ≤ 4) (h : R (str [UInt8.ofNat (97 + n.toNat)]) M) : Does Try.prog 170 [.int .i64 n] M R := by
  refine does_fn tab_ok Try.func170 rfl (by kernel_rfl) (by kernel_rfl) Try.ntmps170 Try.results170 rfl ?_
  simp (disch := omega)
  intro b hb
  simp (disch := omega)
  have e : (97 + n).toNat = 97 + n.toNat := by omega
  rw [← e] at h
  exact ret_sub ((Sub.refl M).put hb _) h
end Go.Proofs.Ytbefijbmgmbphaa

/- Contracts: appending; the specification's small functions; letters and counts. -/
import Derived.Test.YtbefijbmgmbphaaC3
namespace Go.Proofs.Ytbefijbmgmbphaa
open Go
set_option linter.unusedSimpArgs false
set_option linter.unusedVariables false

theorem del_put {M : Mem} {b : Nat} (h : M b = none) (B : Blk) : (M.put b B).del b = M := by
  funext i
  simp only [Mem.del, Mem.put]
  split
  · rename_i e; rw [e, h]
  · rfl
/-- Appending to a slice of its own makes a slice of its own; other things told are kept. -/
theorem app_own {M M' N : Mem} {v x : Value} {xs news : List Value} {e bytes s : Nat} {z zz : Value} {d : Option TI} {K : Value → Mem → Prop} (h : Own M v xs M') (hs : Sub M' N) (hsrc : srcOf N x = some news) (hok : okSrc d = true) (hz : flatV z = true) (hb : 1 ≤ bytes ∧ bytes ≤ 32)
    (hfl : ∀ v ∈ news, flatV v = true) (hbd : (xs.length + news.length) * bytes ≤ 70368744177664) (hk : ∀ v' M'' N'', Own M v' (xs ++ news) M'' → Sub M'' N'' → K v' N'') :
    vAppD (some ⟨.slc e 1 bytes z, s, zz⟩) d v x K N := by
  rcases h with ⟨rfl, rfl, rfl⟩ | ⟨b, c, rfl, hM, hc, rfl⟩
  · rw [vApp_nil]
    refine ⟨⟨hok, hz, hb⟩, ?_⟩
    rw [hsrc]
    cases news with
    | nil => rw [vApp0_nil]; exact hk _ _ _ (Own.nil _) hs
    | cons y ys =>
      rw [vApp0_cons]
      refine ⟨by simpa using hbd, ?_⟩
      intro b c hN hc
      have hM : M' b = none := by
        cases hMb : M' b with
        | none => rfl
        | some B => rw [hs _ _ hMb] at hN; cases hN
      exact hk _ _ _ (Own.new hM rfl hc) (hs.both b _)
  · have hN := hs b _ (put_same _ _ _)
    rw [vApp_own]
    refine ⟨⟨hok, hz, hb⟩, ?_⟩
    rw [hN, hsrc, vApp2_own]
    refine ⟨⟨rfl, rfl, hbd, hfl⟩, ?_⟩
    intro b' c' hN' hc'
    have hs' : Sub M (N.del b) := by
      intro i B hi
      have hne : i ≠ b := by rintro rfl; rw [hM] at hi; cases hi
      simp only [Mem.del, if_neg hne]
      exact hs _ _ ((Sub.refl M).put hM _ _ _ hi)
    have hM' : M b' = none := by
      cases hMb : M b' with
      | none => rfl
      | some B => rw [hs' _ _ hMb] at hN'; cases hN'
    exact hk _ _ _ (Own.new hM' (by rw [List.length_append]) hc') (hs'.both b' _)
theorem l01Is_does (l : List UInt8) (M : Mem) (R : Value → Mem → Prop) (hl : l.length ≤ 1099511627776) (h : R (.bool (isWord l)) M) : Does Try.prog 115 [str l] M R := by
  refine does_fn tab_ok Try.func115 rfl (by kernel_rfl) (by kernel_rfl) Try.ntmps115 Try.results115 rfl ?_
  simp (disch := omega)
  refine loop_to tab_ok [2, 3, 4, 5, 6, 7, 8, 9, 10, 11, 12, 13, 14, 15, 16, 17, 18, 19] (fun i : Nat => [(3, .int .i64 i)]) (fun i M' => M' = M ∧ i ≤ l.length ∧ ∀ u ∈ l.take i, isL u = true) (fun i => l.length - i) 0 (by kernel_rfl) (by simp (disch := omega)) ⟨rfl, by omega, by simp⟩ ?_
  rintro i M' g ⟨rfl, hi, hp⟩
  by_cases hlt : i < l.length
  · have hx : l[i]? = some l[i] := List.getElem?_eq_getElem hlt
    have hu := l[i].toNat_lt
    have bad : isL l[i] = false → isWord l = false := by
      intro hb
      have : l.all isL = false := List.all_eq_false.2 ⟨_, List.getElem_mem hlt, by rw [hb]; simp⟩
      unfold isWord; rw [this, Bool.and_false]
    by_cases h1 : (l[i].toNat : Int) < 97
    · have hb : isL l[i] = false := by unfold isL; rw [decide_eq_false (by omega : ¬ 97 ≤ l[i].toNat)]; rfl
      rw [bad hb] at h
      simp (disch := omega) [hx, h1]
      exact ret_of h
    · by_cases h2 : 101 < (l[i].toNat : Int)
      · have hb : isL l[i] = false := by unfold isL; rw [decide_eq_false (by omega : ¬ l[i].toNat < 102), Bool.and_false]
        rw [bad hb] at h
        simp (disch := omega) [hx, h1, h2]
        exact ret_of h
      · have hb : isL l[i] = true := by unfold isL; rw [decide_eq_true (by omega : 97 ≤ l[i].toNat), decide_eq_true (by omega : l[i].toNat < 102)]; rfl
        simp (disch := omega) [hx, h1, h2]
        refine Rnd.mk' (i + 1) (by omega) (by (repeat (first | exact km | refine kp rfl ?_ | refine km' rfl ?_))) (by simp (disch := omega)) ⟨rfl, by omega, ?_⟩
        rw [take_snoc l hlt]
        intro u hu
        rcases List.mem_append.1 hu with hu | hu
        · exact hp u hu
        · rw [List.mem_singleton.1 hu]; exact hb
  · have hi' : i = l.length := by omega
    subst hi'
    rw [List.take_length] at hp
    have e : isWord l = decide (l.length ≤ 60) := by unfold isWord; rw [List.all_eq_true.2 hp, Bool.and_true]
    rw [e] at h
    by_cases h6 : l.length ≤ 60
    · have h6' : (l.length : Int) ≤ 60 := by omega
      rw [decide_eq_true h6] at h
      simp (disch := omega) [h6']
      exact ret_of h
    · have h6' : ¬ (l.length : Int) ≤ 60 := by omega
      rw [decide_eq_false h6] at h
      simp (disch := omega) [h6']
      exact ret_of h
theorem l01At_does (l : List UInt8) (i : Nat) (u : UInt8) (M : Mem) (R : Value → Mem → Prop) (hl : l.length ≤ 1099511627776) (hx : l[i]? = some u) (h : R (.int .i64 (u.toNat - 97)) M) : Does Try.prog 116 [str l, .int .i64 i] M R := by
  obtain ⟨hi, rfl⟩ := List.getElem?_eq_some_iff.1 hx
  have hu := l[i].toNat_lt
  refine does_fn tab_ok Try.func116 rfl (by kernel_rfl) (by kernel_rfl) Try.ntmps116 Try.results116 rfl ?_
  simp (disch := omega) [hx]
  exact ret_of h
/-- The letters' numbers. -/
def nums (l : List UInt8) : List Int := l.map fun u => (u.toNat : Int) - 97
@[simp] theorem nums_length (l : List UInt8) : (nums l).length = l.length := by simp [nums]
theorem nums_snoc (l : List UInt8) (u : UInt8) : nums (l ++ [u]) = nums l ++ [(u.toNat : Int) - 97] := by simp [nums]
theorem isWord_len {l : List UInt8} (h : isWord l = true) : l.length ≤ 60 := by
  unfold isWord at h; simp only [Bool.and_eq_true, decide_eq_true_eq] at h; exact h.1
theorem isWord_all {l : List UInt8} (h : isWord l = true) : l.all isL = true := by
  unfold isWord at h; simp only [Bool.and_eq_true, decide_eq_true_eq] at h; exact h.2
/-- A list and its code. -/
def Lst (c : Int) (xs : List Value) (M : Mem) (R : Value → Mem → Prop) : Prop := ∀ v M', Own M v xs M' → R (.tuple #[v, .int .i64 c]) M'
def wcode (l : List UInt8) : Int := if isWord l then 0 else 1
theorem get_of {M : Mem} {b tot : Nat} {w : Bool} {xs : List Value} (h : M b = some (.cells w xs tot)) (i : Nat) : M.get? b i = xs[i]? := by simp [Mem.get?, h]
theorem sub_of {M : Mem} {b tot : Nat} {w : Bool} {xs : List Value} (h : M b = some (.cells w xs tot)) (o n : Nat) : M.sub? b o n = optIf (o + n ≤ xs.length) ((xs.drop o).take n) := by
  simp only [Mem.sub?, optIf, h]
  by_cases hq : o + n ≤ xs.length
  · rw [if_pos hq, if_pos hq]
  · rw [if_neg hq, if_neg hq]
theorem none_of {M N : Mem} {b : Nat} (hs : Sub M N) (h : N b = none) : M b = none := by
  cases hM : M b with
  | none => rfl
  | some B => rw [hs _ _ hM] at h; cases h
theorem Sub.putN {M N : Mem} {b : Nat} (h : Sub M N) (hb : N b = none) (B : Blk) : Sub M (N.put b B) := h.trans ((Sub.refl N).put hb B)
theorem Own.base {M N M' : Mem} {v : Value} {xs : List Value} (h : Own N v xs M') (hs : Sub M N) : ∃ M'', Own M v xs M'' ∧ Sub M'' M' := by
  rcases h with ⟨rfl, rfl, rfl⟩ | ⟨b, c, rfl, hN, hc, rfl⟩
  · exact ⟨M, Own.nil _, hs⟩
  · have hM : M b = none := by
      cases hMb : M b with
      | none => rfl
      | some B => rw [hs _ _ hMb] at hN; cases hN
    exact ⟨_, Own.new hM rfl hc, hs.both b _⟩
theorem codeOf1 (l : List UInt8) (b : Bool) : codeOf [l] b = if isWord l then (if b then 0 else 2) else 1 := by simp [codeOf]
theorem fine1 {l : List UInt8} (h : l.length ≤ 1099511627776) : Fine [l] := by intro w hw; rw [List.mem_singleton.1 hw]; exact h
theorem fine2 {l k : List UInt8} (h : l.length ≤ 1099511627776) (h' : k.length ≤ 1099511627776) : Fine [l, k] := by
  intro w hw
  rcases List.mem_cons.1 hw with rfl | hw
  · exact h
  · rw [List.mem_singleton.1 hw]; exact h'
end Go.Proofs.Ytbefijbmgmbphaa

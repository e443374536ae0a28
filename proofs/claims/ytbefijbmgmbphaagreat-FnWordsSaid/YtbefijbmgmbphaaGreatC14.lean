/- Contracts: words with renamed letters. -/
import Derived.Test.YtbefijbmgmbphaaGreatC12
import Derived.Test.YtbefijbmgmbphaaGreatC13
namespace Go.Proofs.YtbefijbmgmbphaaGreat
open Go
set_option linter.unusedSimpArgs false
set_option linter.unusedVariables false

def inL (x : Int) : Bool := decide (0 ≤ x ∧ x ≤ 4)
def okP (p : List Int) : Bool := decide (p.length = 5) && p.all inL
def renL (p : List Int) (u : UInt8) : UInt8 := ltr (p.getD (u.toNat - 97) 0).toNat
def ren (p : List Int) (l : List UInt8) : List UInt8 := l.map (renL p)
theorem ren_snoc (p : List Int) (l : List UInt8) (u : UInt8) : ren p (l ++ [u]) = ren p l ++ [renL p u] := by simp [ren]
theorem ren_len (p : List Int) (l : List UInt8) : (ren p l).length = l.length := by simp [ren]
def renT (l : List UInt8) (p : List Int) : List UInt8 := if isWord l then (if okP p then ren p l else []) else []
def renC (l : List UInt8) (p : List Int) : Int := if isWord l then (if okP p then 0 else 2) else 1
def onI (q : Int → Bool) : Value → Bool
  | .int _ n => q n
  | _ => false
theorem onI_int (q : Int → Bool) (n : Int) : onI q (.int .i64 n) = q n := rfl
theorem all_ints (q : Int → Bool) (zs : List Int) : (ints zs).all (onI q) = zs.all q := by
  induction zs with
  | nil => rfl
  | cons z zs ih => rw [ints_cons, List.all_cons, List.all_cons, onI_int, ih]
theorem mem_ints {zs : List Int} {x : Value} (h : x ∈ ints zs) : ∃ z ∈ zs, x = .int .i64 z := by
  obtain ⟨u, h1, h2⟩ := List.mem_map.1 h; exact ⟨u, h1, h2.symm⟩
theorem l01Letters_does (v : Value) (p : List Int) (M : Mem) (R : Value → Mem → Prop) (hv : Rd M v (ints p)) (hn : p.length ≤ 1099511627776) (h : R (.bool (p.all inL)) M) : Does Tryz.prog 67 [v] M R := by
  refine does_fn tab_ok Tryz.func67 rfl (by kernel_rfl) (by kernel_rfl) Tryz.ntmps67 Tryz.results67 rfl ?_
  obtain ⟨a, c, rfl, ha⟩ := hv.opened
  rw [ints_length] at ha ⊢
  simp (disch := omega)
  refine loop_to tab_ok [2, 3, 4, 5, 6, 7, 8, 9, 10, 11, 12, 13, 14, 15] (fun i : Nat => [(3, .int .i64 i)]) (fun i M' => M' = M ∧ i ≤ p.length ∧ ∀ x ∈ p.take i, inL x = true) (fun i => p.length - i) 0 (by kernel_rfl) (by simp (disch := omega)) ⟨rfl, by omega, by simp⟩ ?_
  rintro i M' g ⟨rfl, hi, hp⟩
  by_cases hlt : i < p.length
  · rcases ha with h0 | ⟨b, o, rfl, ha⟩
    · omega
    have hx : p[i]? = some p[i] := List.getElem?_eq_getElem hlt
    have hg := ha i hlt
    rw [ints_get, hx] at hg
    simp (disch := omega) [hg]
    refine l01In_does _ _ _ _ _ ?_
    cases hq : inL p[i]
    · have hq' : decide (0 ≤ p[i] ∧ p[i] ≤ 4) = false := hq
      have : p.all inL = false := List.all_eq_false.2 ⟨_, List.getElem_mem hlt, by rw [hq]; simp⟩
      rw [this] at h
      rw [hq']
      simp (disch := omega)
      exact ret_of h
    · have hq' : decide (0 ≤ p[i] ∧ p[i] ≤ 4) = true := hq
      rw [hq']
      simp (disch := omega)
      refine Rnd.mk' (i + 1) (by omega) (by (repeat (first | exact km | refine kp rfl ?_ | refine km' rfl ?_))) (by simp (disch := omega)) ⟨rfl, by omega, ?_⟩
      rw [take_snoc p hlt]
      intro x hx
      rcases List.mem_append.1 hx with hx | hx
      · exact hp x hx
      · rw [List.mem_singleton.1 hx]; exact hq
  · have hi' : i = p.length := by omega
    subst hi'
    rw [List.take_length] at hp
    rw [List.all_eq_true.2 hp] at h
    simp (disch := omega)
    exact ret_of h
theorem okP_get {p : List Int} (h : okP p = true) {k : Nat} (hk : k < 5) : ∃ n : Nat, n ≤ 4 ∧ p[k]? = some (n : Int) ∧ p.getD k 0 = n := by
  unfold okP at h
  rw [Bool.and_eq_true, decide_eq_true_eq] at h
  have hlt : k < p.length := by omega
  have hq := List.all_eq_true.1 h.2 _ (List.getElem_mem hlt)
  unfold inL at hq
  rw [decide_eq_true_eq] at hq
  refine ⟨p[k].toNat, by omega, ?_, ?_⟩
  · rw [List.getElem?_eq_getElem hlt]; congr 1; omega
  · rw [List.getD_eq_getElem?_getD, List.getElem?_eq_getElem hlt]; simp; omega
theorem bytes_snoc (l : List UInt8) (u : UInt8) : bytesV l ++ [.int .u8 u.toNat] = bytesV (l ++ [u]) := by simp [bytesV]
theorem flat_bytes (l : List UInt8) : ∀ v ∈ bytesV l, flatV v = true := by intro v hv; obtain ⟨u, _, rfl⟩ := mem_bytes hv; rfl
theorem ltr_nat {n : Nat} (h : n ≤ 4) : (ltr n).toNat = 97 + n := by
  have : n = 0 ∨ n = 1 ∨ n = 2 ∨ n = 3 ∨ n = 4 := by omega
  rcases this with rfl | rfl | rfl | rfl | rfl <;> decide
theorem l01Renamed_does (l : List UInt8) (v : Value) (p : List Int) (M : Mem) (R : Value → Mem → Prop) (hv : Rd M v (ints p)) (hl : l.length ≤ 60) (hw : l.all isL = true) (hp : okP p = true) (h : R (str (ren p l)) M) : Does Tryz.prog 68 [str l, v] M R := by
  refine does_fn tab_ok Tryz.func68 rfl (by kernel_rfl) (by kernel_rfl) Tryz.ntmps68 Tryz.results68 rfl ?_
  obtain ⟨a, c, rfl, ha⟩ := hv.opened
  have h5 : p.length = 5 := by unfold okP at hp; rw [Bool.and_eq_true, decide_eq_true_eq] at hp; exact hp.1
  rw [ints_length, h5] at ha ⊢
  rcases ha with h0 | ⟨b, o, rfl, ha⟩
  · omega
  simp (disch := omega)
  intro b0 hb0
  simp (disch := omega)
  refine loop_to tab_ok [5, 6, 8, 9, 10, 11, 12, 13, 14, 15, 16, 17, 18, 19, 20, 21, 22, 23, 24] (fun x : Nat × Value => [(6, .int .i64 x.1), (5, x.2)]) (fun x M' => x.1 ≤ l.length ∧ Own M x.2 (bytesV (ren p (l.take x.1))) M') (fun x => l.length - x.1) (0, .slice (some ⟨b0, 0, none⟩) 0 0) (by kernel_rfl) (by simp (disch := omega)) ⟨by simp, Own.new hb0 rfl (Nat.le_refl 0)⟩ ?_
  rintro ⟨i, v⟩ M' g ⟨hi, ho⟩
  simp only at hi ho
  by_cases hlt : i < l.length
  · have hx : l[i]? = some l[i] := List.getElem?_eq_getElem hlt
    have hr := isL_range (List.all_eq_true.1 hw _ (List.getElem_mem hlt))
    obtain ⟨n, hn4, hn, hnd⟩ := okP_get hp (k := l[i].toNat - 97) (by omega)
    have hg := ha (l[i].toNat - 97) (by omega)
    rw [ints_get, hn] at hg
    have hg' : M'.get? b (o + (l[i].toNat - 97)) = some (.int .i64 n) := by
      have e : M.get? b (o + (l[i].toNat - 97)) = some (.int .i64 n) := hg
      unfold Mem.get? at e ⊢
      cases hMb : M b with
      | none => rw [hMb] at e; cases e
      | some B => rw [hMb] at e; rw [ho.sub _ _ hMb]; exact e
    have hk : ((l[i].toNat : Int) - 97).toNat = l[i].toNat - 97 := by omega
    have hrl : (ren p (l.take i)).length ≤ 60 := by rw [ren_len, List.length_take]; omega
    simp (disch := omega)
    refine l01At_does l i _ _ _ (by omega) hx ?_
    simp (disch := omega) [hk, hg']
    intro b' hb'
    simp (disch := omega)
    refine app_own ho ((Sub.refl _).put hb' _) (by simp (disch := omega); rfl) rfl rfl (by omega) (by simp (disch := omega)) (by simp (disch := omega); omega) ?_
    intro v' M'' N'' ho' hs'
    simp (disch := omega)
    refine Rnd.mk'' M'' (i + 1, v') hs' (by simp only; omega) (by (repeat (first | exact km | refine kp rfl ?_ | refine km' rfl ?_))) (by simp (disch := omega)) ⟨by simp only; omega, ?_⟩
    simp only
    have e : (97 : Int) + n = ((renL p l[i]).toNat : Int) := by unfold renL; rw [hnd, Int.toNat_natCast, ltr_nat hn4]; push_cast; rfl
    rw [take_snoc l hlt, ren_snoc, ← bytes_snoc, ← e]
    exact ho'
  · have hi' : i = l.length := by omega
    subst hi'
    rw [List.take_length] at ho
    have hs := ho.sub
    rcases ho with ⟨rfl, he, rfl⟩ | ⟨b2, c2, rfl, hM, hc, rfl⟩
    · have : ren p l = [] := by cases hr : ren p l <;> simp [hr, bytesV] at he ⊢
      rw [this] at h
      simp (disch := omega)
      exact ret_of h
    · have htk : List.take (ren p l).length (bytesV (ren p l)) = bytesV (ren p l) := List.take_of_length_le (by rw [bytesV_length]; exact Nat.le_refl _)
      simp (disch := omega) [htk, decB_bytesV]
      exact ret_sub hs h
theorem isLetter_tells (p : List Int) (G : Mem → Prop) : Tells Tryz.prog (.func (.func 46) #[] #[]) (ints p) (onI inL) G := by
  intro x hx M R _ h
  obtain ⟨z, _, rfl⟩ := mem_ints hx
  rw [onI_int] at h
  simp (disch := omega)
  refine does_fn tab_ok Tryz.func46 rfl (by kernel_rfl) (by kernel_rfl) Tryz.ntmps46 Tryz.results46 rfl ?_
  simp (disch := omega)
  refine within_does _ _ _ _ _ ?_
  unfold inL at h
  simp (disch := omega)
  exact ret_of (by simpa using h)
theorem spec_RenameLetters (l : List UInt8) (v : Value) (p : List Int) (M : Mem) (R : Value → Mem → Prop) (hv : Rd M v (ints p)) (hn : p.length ≤ 1099511627776) (hl : l.length ≤ 1099511627776) (h : R (tup2 (str (renT l p)) (renC l p)) M) : Does Tryz.prog 25 [str l, v] M R := by
  unfold tup2 renT renC at h
  refine does_fn tab_ok Tryz.func25 rfl (by kernel_rfl) (by kernel_rfl) Tryz.ntmps25 Tryz.results25 rfl ?_
  simp (disch := omega)
  refine l01Is_does l _ _ hl ?_
  cases hw : isWord l
  · rw [hw] at h
    simp (disch := omega)
    exact ret_of h
  · rw [hw, if_pos rfl, if_pos rfl] at h
    obtain ⟨a, c, rfl, ha⟩ := hv.opened
    rw [ints_length] at ha hv ⊢
    have hop : okP p = (decide (p.length = 5) && p.all inL) := rfl
    by_cases h5 : p.length = 5
    · rw [decide_eq_true h5, Bool.true_and] at hop
      have hb : ((p.length : Int) == 5) = true := by rw [h5]; rfl
      simp (disch := omega) [hb]
      refine l01Letters_does _ p _ _ hv hn ?_
      cases hq : p.all inL
      · rw [hq] at hop
        rw [hop] at h
        simp (disch := omega)
        exact ret_of h
      · rw [hq] at hop
        rw [hop] at h
        simp (disch := omega)
        refine l01Renamed_does l _ p _ _ hv (isWord_len hw) (isWord_all hw) hop ?_
        simp (disch := omega)
        exact ret_of h
    · rw [decide_eq_false h5, Bool.false_and] at hop
      rw [hop] at h
      have hb : ((p.length : Int) == 5) = false := beq_eq_false_iff_ne.2 (by omega)
      have h5' : ¬ (p.length : Int) = 5 := by omega
      simp (disch := omega) [hb, h5']
      exact ret_of h
theorem impl_RenameLetters (l : List UInt8) (v : Value) (p : List Int) (M : Mem) (R : Value → Mem → Prop) (hv : Rd M v (ints p)) (hn : p.length ≤ 1099511627776) (hl : l.length ≤ 1099511627776) (h : R (tup2 (str (renT l p)) (renC l p)) M) : Does Tryz.prog 24 [str l, v] M R := by
  unfold tup2 renT renC at h
  refine does_fn tab_ok Tryz.func24 rfl (by kernel_rfl) (by kernel_rfl) Tryz.ntmps24 Tryz.results24 rfl ?_
  obtain ⟨a, c, rfl, ha⟩ := hv.opened
  rw [ints_length] at ha hv ⊢
  simp (disch := omega)
  intro b1 hb1
  simp (disch := omega)
  intro b2 hb2
  have n2 := hb2
  rw [put_none] at n2
  have hs2 : Sub M ((M.put b1 (.cells true [.slice a p.length c] 1)).put b2 (.cells true [str l] 1)) := ((Sub.refl M).put hb1 _).putN hb2 _
  have k1 : ((M.put b1 (.cells true [.slice a p.length c] 1)).put b2 (.cells true [str l] 1)) b1 = some (.cells true [.slice a p.length c] 1) := (put_ne _ _ (Ne.symm n2.1)).trans (put_same _ _ _)
  have hv2 := (hv.put hb1 (.cells true [.slice a p.length c] 1)).put hb2 (.cells true [str l] 1)
  simp (disch := omega)
  refine wordCode_does _ _ [l] (okP p) (fun M' => M' b1 = some (.cells true [.slice a p.length c] 1) ∧ Rd M' (.slice a p.length c) (ints p)) _ _ (Rd.new rfl (Nat.le_refl 1)) (fine1 hl) (by simp) ⟨k1, hv2⟩ ?_ ?_ ?_
  · intro N b B ⟨q1, q2⟩ hb
    have : b1 ≠ b := by rintro rfl; rw [hb] at q1; cases q1
    exact ⟨by rw [put_ne _ _ this, q1], q2.put hb _⟩
  · intro N R' ⟨q1, q2⟩ hR'
    have hop : okP p = (decide (p.length = 5) && p.all inL) := rfl
    simp (disch := omega)
    refine does_fn tab_ok Tryz.func65 rfl (by kernel_rfl) (by kernel_rfl) Tryz.ntmps65 Tryz.results65 rfl ?_
    by_cases h5 : p.length = 5
    · rw [decide_eq_true h5, Bool.true_and] at hop
      rw [hop] at hR'
      have hb : ((p.length : Int) == 5) = true := by rw [h5]; rfl
      simp (disch := omega) [get_of q1, hb]
      refine areAllI_does _ _ (ints p) (onI inL) (fun _ => True) _ _ q2 trivial stab_true (isLetter_tells p _) rfl (by rw [ints_length]; omega) ?_
      rw [all_ints]
      simp (disch := omega)
      exact ret_of hR'
    · rw [decide_eq_false h5, Bool.false_and] at hop
      rw [hop] at hR'
      have hb : ((p.length : Int) == 5) = false := beq_eq_false_iff_ne.2 (by omega)
      simp (disch := omega) [get_of q1, hb]
      exact ret_of hR'
  · rw [codeOf1]
    cases hw : isWord l
    · rw [hw] at h
      simp (disch := omega)
      exact ret_sub hs2 h
    · rw [hw, if_pos rfl, if_pos rfl] at h
      cases hop : okP p
      · rw [hop] at h
        simp (disch := omega)
        exact ret_sub hs2 h
      · rw [hop] at h
        have h60 := isWord_len hw
        have h5 : p.length = 5 := by unfold okP at hop; rw [Bool.and_eq_true, decide_eq_true_eq] at hop; exact hop.1
        rw [h5] at ha hv2 k1 hs2
        rcases ha with h0 | ⟨b, o, rfl, ha⟩
        · omega
        simp (disch := omega)
        intro b3 c3 hb3 hc3
        have hs3 := hs2.putN (by rw [h5] at hb3; exact hb3) (.cells true (bytesV l) c3)
        have e1 : b1 ≠ b3 := by rintro rfl; rw [h5] at hb3; rw [k1] at hb3; cases hb3
        simp (disch := omega) [h5]
        have kk : (((M.put b1 (.cells true [.slice (some ⟨b, o, none⟩) 5 c] 1)).put b2 (.cells true [str l] 1)).put b3 (.cells true (bytesV l) c3)) b1 = some (.cells true [.slice (some ⟨b, o, none⟩) 5 c] 1) := by rw [put_ne _ _ e1]; exact k1
        have kb : (((M.put b1 (.cells true [.slice (some ⟨b, o, none⟩) 5 c] 1)).put b2 (.cells true [str l] 1)).put b3 (.cells true (bytesV l) c3)) b3 = some (.cells true (bytesV l) c3) := put_same _ _ _
        generalize (((M.put b1 (.cells true [.slice (some ⟨b, o, none⟩) 5 c] 1)).put b2 (.cells true [str l] 1)).put b3 (.cells true (bytesV l) c3)) = N at *
        refine loop_to tab_ok [7, 9, 20, 21, 22, 23, 24, 25, 26, 27, 28, 29, 30, 31, 32] (fun i : Nat => [(20, .int .i64 i), (7, str (ren p (l.take i)))]) (fun i M' => M' = N ∧ i ≤ l.length) (fun i => l.length - i) 0 (by kernel_rfl) (by simp (disch := omega) [ren]) ⟨rfl, by omega⟩ ?_
        rintro i M' g ⟨rfl, hi⟩
        by_cases hlt : i < l.length
        · have hx : l[i]? = some l[i] := List.getElem?_eq_getElem hlt
          have hr := isL_range (List.all_eq_true.1 (isWord_all hw) _ (List.getElem_mem hlt))
          obtain ⟨n, hn4, hn, hnd⟩ := okP_get hop (k := l[i].toNat - 97) (by omega)
          have hg := ha (l[i].toNat - 97) (by omega)
          rw [ints_get, hn] at hg
          have hg' : M'.get? b (o + (l[i].toNat - 97)) = some (.int .i64 n) := by
            have e : M.get? b (o + (l[i].toNat - 97)) = some (.int .i64 n) := hg
            unfold Mem.get? at e ⊢
            cases hMb : M b with
            | none => rw [hMb] at e; cases e
            | some B => rw [hMb] at e; rw [hs3 _ _ hMb]; exact e
          have hk : ((l[i].toNat : Int) - 97).toNat = l[i].toNat - 97 := by omega
          have hrl : (ren p (l.take i)).length ≤ 60 := by rw [ren_len, List.length_take]; omega
          have hu := l[i].toNat_lt
          simp (disch := omega) [get_of kb, hx]
          refine draw_to tab_ok (by kernel_rfl) (by kernel_rfl) (by rfl) ?_
          simp (disch := omega) [get_of kk]
          refine vQCall_at (a := []) (c := []) (number_does _ _ _ ⟨rfl, rfl⟩) ?_
          simp (disch := omega) [hk, hg']
          refine vQCall_at (a := []) (c := []) (letterN_does n _ _ hn4 ⟨rfl, rfl⟩) ?_
          simp (disch := omega)
          refine Rnd.mk' (i + 1) (by omega) (by (repeat (first | exact km | refine kp rfl ?_ | refine km' rfl ?_))) ?_ ⟨rfl, by omega⟩
          rw [take_snoc l hlt, ren_snoc]
          have e : renL p l[i] = ltr n := by unfold renL; rw [hnd, Int.toNat_natCast]
          rw [e]
          simp (disch := omega)
        · have hi' : i = l.length := by omega
          subst hi'
          rw [List.take_length]
          simp (disch := omega)
          exact ret_sub hs3 h
end Go.Proofs.YtbefijbmgmbphaaGreat

/- Contracts: first places of patterns, of the program. -/
import Derived.Test.YtbefijbmgmbphaaC36
import Derived.Test.YtbefijbmgmbphaaE10
import Derived.Test.YtbefijbmgmbphaaC39
import Derived.Test.YtbefijbmgmbphaaC5
import Derived.Test.YtbefijbmgmbphaaC20
import Derived.Test.YtbefijbmgmbphaaC31
import Derived.Test.YtbefijbmgmbphaaM11
namespace Go.Proofs.Ytbefijbmgmbphaa
open Go
set_option linter.unusedSimpArgs false
set_option linter.unusedVariables false

def cmpI (a b : Int) : Int := if a < b then -1 else if b < a then 1 else 0
def cmpL (a b : List Nat) : Int := if a = b then 0 else if lexLt a b then -1 else 1
theorem cmpL_same {pre a b : List Nat} : cmpL (pre ++ a) (pre ++ b) = cmpL a b := by
  unfold cmpL
  simp only [lex_app, List.append_right_inj]
theorem cmpL_head {x y : Nat} {a b : List Nat} (h : x ≠ y) : cmpL (x :: a) (y :: b) = cmpI x y := by
  have e : ¬ (x :: a = y :: b) := by intro e; injection e with e _; exact h e
  by_cases h1 : x < y
  · simp [cmpL, lexLt, cmpI, h, h1]
  · have h2 : y < x := by omega
    simp [cmpL, lexLt, cmpI, h, h1, h2]
theorem isNaN_does (a : Int) (M : Mem) (R : Value → Mem → Prop) (h : R (.bool false) M) : Does Try.prog 166 [.int .i64 a] M R := by
  refine does_fn tab_ok Try.func166 rfl (by kernel_rfl) (by kernel_rfl) Try.ntmps166 Try.results166 rfl ?_
  simp (disch := omega)
  exact ret_of h
theorem cmpCompare_does (a b : Int) (M : Mem) (R : Value → Mem → Prop) (h : R (.int .i64 (cmpI a b)) M) : Does Try.prog 91 [.int .i64 a, .int .i64 b] M R := by
  unfold cmpI at h
  refine does_fn tab_ok Try.func91 rfl (by kernel_rfl) (by kernel_rfl) Try.ntmps91 Try.results91 rfl ?_
  simp (disch := omega)
  refine isNaN_does a _ _ ?_
  simp (disch := omega)
  refine isNaN_does b _ _ ?_
  by_cases h1 : a < b
  · rw [if_pos h1] at h
    simp (disch := omega) [h1]
    exact ret_of h
  · rw [if_neg h1] at h
    by_cases h2 : b < a
    · rw [if_pos h2] at h
      simp (disch := omega) [h1, h2]
      exact ret_of h
    · rw [if_neg h2] at h
      simp (disch := omega) [h1, h2]
      exact ret_of h
theorem cmpOr2_does (v : Value) (x y : Int) (M : Mem) (R : Value → Mem → Prop) (hv : Rd M v (ints [x, y])) (h : R (.int .i64 (if x = 0 then y else x)) M) : Does Try.prog 90 [v] M R := by
  obtain ⟨a, c, rfl, ha⟩ := hv.opened
  rcases ha with h0 | ⟨b, o, rfl, ha⟩
  · simp at h0
  have g0 := ha 0 (by simp)
  have g1 := ha 1 (by simp)
  refine does_fn tab_ok Try.func90 rfl (by kernel_rfl) (by kernel_rfl) Try.ntmps90 Try.results90 rfl ?_
  simp (disch := omega)
  refine loop_to tab_ok [2, 5, 8, 9, 10, 11, 12, 13, 14, 15, 16] (fun i : Nat => [(8, .int .i64 i)]) (fun i M' => M' = M ∧ (i = 0 ∨ (i = 1 ∧ x = 0) ∨ (i = 2 ∧ x = 0 ∧ y = 0))) (fun i => 2 - i) 0 (by kernel_rfl) (by simp (disch := omega)) ⟨rfl, .inl rfl⟩ ?_
  rintro i M' g ⟨rfl, hi⟩
  have e0 : (ints [x, y])[0]? = some (.int .i64 x) := rfl
  have e1 : (ints [x, y])[1]? = some (.int .i64 y) := rfl
  rw [e0] at g0
  rw [e1] at g1
  rw [Nat.add_zero] at g0
  rcases hi with rfl | ⟨rfl, rfl⟩ | ⟨rfl, rfl, rfl⟩
  · by_cases hx : x = 0
    · subst hx
      simp (disch := omega) [g0]
      exact Rnd.mk' 1 (by omega) (by (repeat (first | exact km | refine kp rfl ?_ | refine km' rfl ?_))) (by simp (disch := omega)) ⟨rfl, by simp⟩
    · rw [if_neg hx] at h
      simp (disch := omega) [g0, hx]
      exact ret_of h
  · by_cases hy : y = 0
    · subst hy
      simp (disch := omega) [g1]
      exact Rnd.mk' 2 (by omega) (by (repeat (first | exact km | refine kp rfl ?_ | refine km' rfl ?_))) (by simp (disch := omega)) ⟨rfl, by simp⟩
    · rw [if_pos rfl] at h
      simp (disch := omega) [g1, hy]
      exact ret_of h
  · rw [if_pos rfl] at h
    simp (disch := omega)
    exact ret_of h
theorem sCompare_does (v v' : Value) (a b : List Nat) (M : Mem) (R : Value → Mem → Prop) (hv : Rd M v (natsV a)) (hv' : Rd M v' (natsV b)) (hl : a.length = b.length) (hl' : a.length ≤ 1000000) (h : R (.int .i64 (cmpL a b)) M) : Does Try.prog 92 [v, v'] M R := by
  obtain ⟨a1, c1, rfl, ha⟩ := hv.opened
  obtain ⟨a2, c2, rfl, hb⟩ := hv'.opened
  simp only [natsV_length] at ha hb ⊢
  refine does_fn tab_ok Try.func92 rfl (by kernel_rfl) (by kernel_rfl) Try.ntmps92 Try.results92 rfl ?_
  simp (disch := omega)
  refine loop_to tab_ok [4, 5, 6, 7, 8, 11, 12, 13, 14, 15, 16, 17, 18, 19, 20, 21, 22, 23, 24, 25, 26, 27, 28, 29, 30] (fun i : Nat => [(11, .int .i64 i)]) (fun i M' => M' = M ∧ i ≤ a.length ∧ a.take i = b.take i) (fun i => a.length - i) 0 (by kernel_rfl) (by simp (disch := omega)) ⟨rfl, by omega, rfl⟩ ?_
  rintro i M' g ⟨rfl, hi, heq⟩
  by_cases hlt : i < a.length
  · rcases ha with hz | ⟨b1, o1, rfl, ha⟩
    · omega
    rcases hb with hz | ⟨b2, o2, rfl, hb⟩
    · omega
    have hltb : i < b.length := by omega
    have g1 := ha i hlt
    have g2 := hb i hltb
    rw [natsV_get, List.getElem?_eq_getElem hlt, Option.map_some] at g1
    rw [natsV_get, List.getElem?_eq_getElem hltb, Option.map_some] at g2
    have t1 := take_snoc a hlt
    have t2 := take_snoc b hltb
    have d1 : a = a.take i ++ a[i] :: a.drop (i + 1) := by rw [List.getElem_cons_drop]; exact (List.take_append_drop _ _).symm
    have d2 : b = b.take i ++ b[i] :: b.drop (i + 1) := by rw [List.getElem_cons_drop]; exact (List.take_append_drop _ _).symm
    by_cases hx : a[i] = b[i]
    · rw [hx] at g1 t1
      generalize b[i] = x at *
      simp (disch := omega) [g1, g2]
      refine cmpCompare_does _ _ _ _ ?_
      have e : cmpI x x = 0 := by unfold cmpI; simp
      rw [e]
      simp (disch := omega)
      exact Rnd.mk' (i + 1) (by omega) (by (repeat (first | exact km | refine kp rfl ?_ | refine km' rfl ?_))) (by simp (disch := omega)) ⟨rfl, by omega, by rw [t1, t2, heq]⟩
    · have e : cmpL a b = cmpI a[i] b[i] := by
        conv => lhs; rw [d1, d2, heq]
        rw [cmpL_same, cmpL_head hx]
      have e0 : cmpI (a[i] : Nat) (b[i] : Nat) ≠ 0 := by
        unfold cmpI
        split
        · omega
        · split <;> omega
      rw [e] at h
      generalize a[i] = x at *
      generalize b[i] = y at *
      simp (disch := omega) [g1, g2]
      refine cmpCompare_does _ _ _ _ ?_
      generalize cmpI x y = q at *
      simp (disch := omega) [e0]
      exact ret_of h
  · have hi' : i = a.length := by omega
    subst hi'
    rw [List.take_length, hl, List.take_length] at heq
    have e : cmpL a b = 0 := by unfold cmpL; rw [if_pos heq]
    rw [e] at h
    simp (disch := omega)
    exact ret_of h
theorem lengthsOf_does (V : Vals) (M : Mem) (R : Value → Mem → Prop) (hV : Small3 V) (h : ∀ v M', Own M v (natsV (lenV V)) M' → R v M') : Does Try.prog 93 [.agg (strs V).toArray] M R := by
  have h3 := strs_take3 hV.1
  have h3' := hV.1
  refine does_fn tab_ok Try.func93 rfl (by kernel_rfl) (by kernel_rfl) Try.ntmps93 Try.results93 rfl ?_
  simp (disch := omega) [h3, h3']
  intro b1 hb1
  have k1 : (M.put b1 (.cells true (strs V) 3)) b1 = some (.cells true (strs V) 3) := put_same _ _ _
  have hs1 : Sub M (M.put b1 (.cells true (strs V) 3)) := (Sub.refl M).put hb1 _
  simp (disch := omega) [sub_of k1, h3, h3']
  generalize M.put b1 (.cells true (strs V) 3) = N at *
  refine loop_to tab_ok [3, 5, 7, 8, 9, 10, 11, 12, 13, 14, 15] (fun x : Nat × Value => [(7, .int .i64 x.1), (3, x.2)]) (fun x M' => x.1 ≤ 3 ∧ Own N x.2 (natsV ((lenV V).take x.1)) M') (fun x => 3 - x.1) (0, .slice none 0 0) (by kernel_rfl) (by simp (disch := omega)) ⟨by omega, by show Own N _ [] N; exact Own.nil N⟩ ?_
  rintro ⟨i, v⟩ M' g ⟨hi, ho⟩
  simp only at hi ho
  by_cases hlt : i < 3
  · have hgv := val_get hV.1 hlt
    have hsm := small_get hV i
    have hll : i < (lenV V).length := by rw [lenV_len]; omega
    have htk := take_snoc (lenV V) hll
    have he : (lenV V)[i] = (V.getD i []).length := by
      rw [← lenV_getD, List.getD_eq_getElem?_getD, List.getElem?_eq_getElem hll]; rfl
    rw [he] at htk
    generalize V.getD i [] = u at *
    have htl : ((lenV V).take i).length ≤ 3 := by rw [List.length_take]; omega
    generalize (lenV V).take i = L at *
    simp (disch := omega) [hgv, at_in hgv]
    intro b' hb'
    simp (disch := omega)
    refine app_own ho ((Sub.refl _).put hb' _) (by simp (disch := omega); rfl) rfl rfl (by omega) (by simp (disch := omega)) (by simp (disch := omega); rw [natsV_length]; omega) ?_
    intro v' M'' N'' ho' hs'
    simp (disch := omega)
    refine Rnd.mk'' M'' (i + 1, v') hs' (by simp only; omega) (by (repeat (first | exact km | refine kp rfl ?_ | refine km' rfl ?_))) (by simp (disch := omega)) ⟨by simp only; omega, ?_⟩
    simp only
    rw [htk, ← natsV_snoc]
    exact ho'
  · have hi' : i = 3 := by omega
    subst hi'
    rw [List.take_of_length_le (by rw [lenV_len]; omega)] at ho
    obtain ⟨M3, o3, s3⟩ := ho.base hs1
    simp (disch := omega)
    exact ret_sub s3 (h _ _ o3)
def JF (bl bb : Nat) (s : Nat × Vals) (M : Mem) : Prop := M bl = some (.cells true [.int .i64 (s.1 : Nat)] 1) ∧ M bb = some (.cells true (strs s.2) 3) ∧ Small3 s.2
theorem ltT_is (x : Vals × Nat) (s : Nat × Vals) : decide ((if cmpI (x.2 : Nat) (s.1 : Nat) = 0 then cmpL (lenV x.1) (lenV s.2) else cmpI (x.2 : Nat) (s.1 : Nat)) < 0) = ltT x (s.2, s.1) := by
  unfold ltT cmpI
  rcases Nat.lt_trichotomy x.2 s.1 with h | h | h
  · simp [h]
  · rw [h]
    simp only [Int.lt_irrefl, if_false, if_true, Nat.lt_irrefl, decide_false, Bool.false_or, beq_self_eq_true, Bool.true_and]
    unfold cmpL
    by_cases e : lenV x.1 = lenV s.2
    · rw [if_pos e, e, lex_irr]; rfl
    · rw [if_neg e]
      cases hl : lexLt (lenV x.1) (lenV s.2) <;> simp
  · have h1 : ¬ x.2 < s.1 := by omega
    have h2 : ¬ x.2 = s.1 := by omega
    simp [h, h1, h2]
theorem firstPlace1_does (bl bb : Nat) (hne : bl ≠ bb) (s : Nat × Vals) (V : Vals) (t : Nat) (M : Mem) (R : Value → Mem → Prop) (hV : Small3 V) (hJ : JF bl bb s M)
    (h : ∀ M', JF bl bb (stepP s (V, t)).1 M' → KeepO (fun b => b = bl ∨ b = bb) M M' → R (.bool (stepP s (V, t)).2) M') :
    vCallV Try.prog (.func (.func 89) #[] #[.pointer (some ⟨bl, 0, none⟩), .pointer (some ⟨bb, 0, none⟩)]) [.agg (strs V).toArray, .int .i64 (t : Nat)] R M := by
  obtain ⟨j1, j2, j3⟩ := hJ
  obtain ⟨least, best⟩ := s
  simp only at j1 j2 j3
  have h3 := strs_take3 hV.1
  have h3' := hV.1
  have b3 := strs_take3 j3.1
  have b3' := j3.1
  have bd : (strs best).drop 3 = [] := List.drop_of_length_le (by rw [strs_length]; omega)
  simp (disch := omega)
  refine does_fn tab_ok Try.func89 rfl (by kernel_rfl) (by kernel_rfl) Try.ntmps89 Try.results89 rfl ?_
  simp (disch := omega) [h3, h3']
  intro b4 hb4
  have n1 : bl ≠ b4 := by rintro rfl; rw [hb4] at j1; cases j1
  have n2 : bb ≠ b4 := by rintro rfl; rw [hb4] at j2; cases j2
  have k4 : (M.put b4 (.cells true (strs V) 3)) b4 = some (.cells true (strs V) 3) := put_same _ _ _
  have s4 : Sub M (M.put b4 (.cells true (strs V) 3)) := (Sub.refl M).put hb4 _
  have k1 := s4 _ _ j1
  have k2 := s4 _ _ j2
  simp (disch := omega) [h3, h3']
  generalize M.put b4 (.cells true (strs V) 3) = N at *
  have keep : ∀ N', Sub N N' → KeepO (fun b => b = bl ∨ b = bb) M ((N'.put bl (.cells true [.int .i64 (t : Nat)] 1)).put bb (.cells true (strs V) 3)) := by
    intro N' hN b B hb hB
    rw [put_ne _ _ (fun e => hb (.inr e)), put_ne _ _ (fun e => hb (.inl e))]
    exact hN _ _ (s4 _ _ hB)
  have newJ : ∀ N' : Mem, JF bl bb (t, V) ((N'.put bl (.cells true [.int .i64 (t : Nat)] 1)).put bb (.cells true (strs V) 3)) := by
    intro N'
    refine ⟨?_, put_same _ _ _, hV⟩
    rw [put_ne _ _ hne]
    exact put_same _ _ _
  by_cases h0 : least = 0
  · have hst : stepP (least, best) (V, t) = ((t, V), false) := by unfold stepP; rw [if_pos (.inl h0)]
    rw [hst] at h
    subst h0
    refine draws [0, 1, 2, 3, 4, 5, 6, 8, 7, 9, 10, 11, 12, 13, 14] [0, 0, 0, 0, 0, 0, 0, 0, 1, 1, 0, 1, 0, 0, 0] tab_ok (by kernel_rfl) (by kernel_rfl) (by kernel_rfl) (by rfl) ?_
    simp (disch := omega) [get_of k1, sub_of k2, sub_of k4, h3, h3', b3, b3']
    refine plays (lights [0] (.alt 1 1 (.one 2 2 (.one 3 2 .fin)) (.one 2 2 (.one 1 1 (.one 3 2 .fin))))) tab_ok (by kernel_rfl) (by kernel_rfl) (by rfl) ?_
    simp (disch := omega) [get_of k1, sub_of k2, sub_of k4, h3, h3', b3, b3', k1, k2, set_is, vT_alt, bd]
    refine ⟨flat_strs V, ?_⟩
    exact ret_of (h _ (newJ N) (keep N (Sub.refl _)))
  · have hlt := ltT_is (V, t) (least, best)
    have hst : stepP (least, best) (V, t) = ((if ltT (V, t) (best, least) = true then (t, V) else (least, best)), false) := by
      unfold stepP
      simp [h0]
    rw [hst] at h
    simp only at hlt
    have h0' : ¬ (least : Int) = 0 := by omega
    refine draws [0, 1, 2, 3, 4, 5, 6, 8, 7, 9, 10, 11, 12, 13, 14] [0, 0, 0, 0, 0, 0, 0, 0, 1, 1, 0, 1, 0, 0, 0] tab_ok (by kernel_rfl) (by kernel_rfl) (by kernel_rfl) (by rfl) ?_
    simp (disch := omega) [get_of k1, sub_of k2, sub_of k4, h3, h3', b3, b3', h0']
    refine vQCall_at (a := []) (c := []) (cmpCompare_does _ _ _ _ ⟨rfl, rfl⟩) ?_
    simp (disch := omega) [get_of k1, sub_of k2, sub_of k4, h3, h3', b3, b3', h0']
    refine lengthsOf_does V _ _ hV ?_
    intro v1 N1 o1
    have q1 := o1.sub
    simp (disch := omega)
    refine ⟨q1, ?_⟩
    refine lengthsOf_does best _ _ j3 ?_
    intro v2 N2 o2
    have q2 := o2.sub
    simp (disch := omega)
    refine ⟨q2, ?_⟩
    refine vQCall_at (a := []) (c := []) (sCompare_does v1 v2 _ _ _ _ (o1.rd.sub q2) o2.rd (by rw [lenV_len, lenV_len, hV.1, j3.1]) (by rw [lenV_len, hV.1]; omega) ⟨rfl, rfl⟩) ?_
    simp (disch := omega)
    intro b7 hb7
    have q3 : Sub N2 (N2.put b7 (.cells true [.int .i64 (cmpI (t : Nat) (least : Nat)), .int .i64 (cmpL (lenV V) (lenV best))] 2)) := (Sub.refl _).put hb7 _
    refine ⟨q3, ?_⟩
    have r7 : Rd (N2.put b7 (.cells true [.int .i64 (cmpI (t : Nat) (least : Nat)), .int .i64 (cmpL (lenV V) (lenV best))] 2)) (.slice (some ⟨b7, 0, none⟩) 2 2) (ints [cmpI (t : Nat) (least : Nat), cmpL (lenV V) (lenV best)]) := Rd.new rfl (Nat.le_refl 2)
    have sN := (q1.trans q2).trans q3
    generalize N2.put b7 (.cells true [.int .i64 (cmpI (t : Nat) (least : Nat)), .int .i64 (cmpL (lenV V) (lenV best))] 2) = N3 at *
    simp (disch := omega)
    refine vQCall_at (a := []) (c := []) (cmpOr2_does _ _ _ _ _ r7 ⟨rfl, rfl⟩) ?_
    have l1 := sN _ _ k1
    have l2 := sN _ _ k2
    have l4 := sN _ _ k4
    generalize (if cmpI (t : Nat) (least : Nat) = 0 then cmpL (lenV V) (lenV best) else cmpI (t : Nat) (least : Nat)) = q at *
    cases hd : ltT (V, t) (best, least)
    · rw [hd] at h hlt
      have hlt := of_decide_eq_false hlt
      simp (disch := omega) [hlt]
      refine ret_of (h N3 ⟨l1, l2, j3⟩ ?_)
      exact (s4.trans sN).keepO
    · rw [hd] at h hlt
      have hlt := of_decide_eq_true hlt
      simp (disch := omega) [hlt]
      refine plays (lights [0] (.alt 1 1 (.one 2 2 (.one 3 2 .fin)) (.one 2 2 (.one 1 1 (.one 3 2 .fin))))) tab_ok (by kernel_rfl) (by kernel_rfl) (by rfl) ?_
      simp (disch := omega) [get_of l1, sub_of l2, sub_of l4, h3, h3', b3, b3', l1, l2, set_is, vT_alt, bd]
      refine ⟨flat_strs V, ?_⟩
      exact ret_of (h _ (newJ N3) (keep N3 sN))
theorem patternCode_does (w p : List UInt8) (M : Mem) (R : Value → Mem → Prop) (hw : w.length ≤ 1099511627776) (hp : p.length ≤ 1099511627776) (h : R (.int .i64 (if isWord w && isPat p then 0 else 1)) M) : Does Try.prog 87 [str w, str p] M R := by
  refine does_fn tab_ok Try.func87 rfl (by kernel_rfl) (by kernel_rfl) Try.ntmps87 Try.results87 rfl ?_
  simp (disch := omega)
  refine isWord_does w _ _ hw ?_
  cases h1 : isWord w
  · rw [h1] at h
    simp (disch := omega)
    exact ret_of h
  · rw [h1] at h
    simp (disch := omega)
    refine isPattern_does p _ _ hp ?_
    cases h2 : isPat p
    · rw [h2] at h
      simp (disch := omega)
      exact ret_of h
    · rw [h2] at h
      simp (disch := omega)
      exact ret_of h
def fillV (V : Vals) : Vals := V.filter fun u => !u.isEmpty
def plI (w p : List UInt8) : Int := if isWord w && isPat p then (match placeF w p with | some x => (x.1 : Int) | none => 0) else 0
def plL (w p : List UInt8) : Vals := if isWord w && isPat p then (match placeF w p with | some x => fillV x.2 | none => []) else []
def plC (w p : List UInt8) : Int := if isWord w && isPat p then (match placeF w p with | some _ => 0 | none => 4) else 1
def LstI (i : Int) (c : Int) (xs : List Value) (M : Mem) (R : Value → Mem → Prop) : Prop := ∀ v M', Own M v xs M' → R (.tuple #[.int .i64 i, v, .int .i64 c]) M'
theorem Sub.delN {M N : Mem} {b : Nat} (h : Sub M N) (hb : M b = none) : Sub M (N.del b) := by
  intro i B hi
  have hne : i ≠ b := by rintro rfl; rw [hb] at hi; cases hi
  simp only [Mem.del, if_neg hne]
  exact h _ _ hi
theorem del_put_same {M : Mem} {b : Nat} {X : Blk} (h : M b = some X) : (M.del b).put b X = M := by
  funext i
  by_cases e : i = b
  · subst e; rw [put_same, h]
  · rw [put_ne _ _ e]; simp [Mem.del, e]
theorem firstPlace2_tells (ss : List (List UInt8)) : TellsS Try.prog (.func (.func 95) #[] #[]) ss (fun u => u.isEmpty) := by
  intro u hu M R h
  have h : ∀ M', Sub M M' → R (.bool (u.isEmpty)) M' := h
  simp (disch := omega)
  refine does_fn tab_ok Try.func95 rfl (by kernel_rfl) (by kernel_rfl) Try.ntmps95 Try.results95 rfl ?_
  simp (disch := omega)
  exact ret_of (h _ (Sub.refl _))
theorem impl_FirstPlace (w p : List UInt8) (M : Mem) (R : Value → Mem → Prop) (hw : w.length ≤ 1099511627776) (hp : p.length ≤ 1099511627776) (h : LstI (plI w p) (plC w p) (strs (plL w p)) M R) : Does Try.prog 25 [str w, str p] M R := by
  unfold plI plC plL at h
  refine does_fn tab_ok Try.func25 rfl (by kernel_rfl) (by kernel_rfl) Try.ntmps25 Try.results25 rfl ?_
  simp (disch := omega)
  refine patternCode_does w p _ _ hw hp ?_
  cases hb : isWord w && isPat p
  · rw [hb] at h
    simp (disch := omega)
    exact ret_of (h _ _ (Own.nil M))
  · rw [hb, if_pos rfl, if_pos rfl, if_pos rfl] at h
    rw [Bool.and_eq_true] at hb
    have h60 := isWord_len hb.1
    obtain ⟨hp1, hp8, hpv⟩ := isPat_in hb.2
    have hpi : ∀ c ∈ p, vIdx c < 3 := fun c hc => by
      have := isV_range (List.all_eq_true.1 hpv c hc)
      unfold vIdx; omega
    simp (disch := omega)
    refine loop_to tab_ok [4, 5, 6, 8, 9, 10, 19, 20, 21, 22, 23, 24, 25, 26, 27, 28, 29, 30, 31, 32, 33, 34] (fun i : Nat => [(19, .int .i64 i)]) (fun i M' => i ≤ w.length ∧ Sub M M' ∧ placeTo w p i = none) (fun i => w.length - i) 0 (by kernel_rfl) (by simp (disch := omega)) ⟨by omega, Sub.refl _, rfl⟩ ?_
    rintro i M' g ⟨hi, hs, hno⟩
    by_cases hlt : i < w.length
    · simp (disch := omega)
      intro bl hbl
      simp (disch := omega)
      intro bb hbb
      have hne : bl ≠ bb := by rintro rfl; rw [put_same] at hbb; cases hbb
      have hbb' : M' bb = none := by rw [put_ne _ _ (Ne.symm hne)] at hbb; exact hbb
      have hJ : JF bl bb (0, V0) ((M'.put bl (.cells true [.int .i64 0] 1)).put bb (.cells true [str [], str [], str []] 3)) := by
        refine ⟨?_, put_same _ _ _, small0⟩
        rw [put_ne _ _ hne]
        exact put_same _ _ _
      have hsN : Sub M' ((M'.put bl (.cells true [.int .i64 0] 1)).put bb (.cells true [str [], str [], str []] 3)) := ((Sub.refl M').put hbl _).putN hbb _
      simp (disch := omega)
      generalize (M'.put bl (.cells true [.int .i64 0] 1)).put bb (.cells true [str [], str [], str []] 3) = N at *
      refine matchS_does (w.drop i) (by rw [List.length_drop]; omega) stepP _ rfl (fun b => b = bl ∨ b = bb) (JF bl bb) ?_ ?_ (fun s V t K R' hV hJ' hR => firstPlace1_does bl bb hne s V t K R' hV hJ' hR) p V0 0 (0, V0) _ _ hpv hp8 small0 (by omega) hJ ?_
      · rintro s K b ⟨q1, q2, _⟩ (rfl | rfl)
        · rw [q1]; intro hh; cases hh
        · rw [q2]; intro hh; cases hh
      · rintro s K b B ⟨q1, q2, q3⟩ hb
        refine ⟨?_, ?_, q3⟩
        · rw [put_ne _ _ (by rintro rfl; rw [hb] at q1; cases q1)]; exact q1
        · rw [put_ne _ _ (by rintro rfl; rw [hb] at q2; cases q2)]; exact q2
      · intro N1 hJ1 hk1
        have hrun : (runS stepP (0, V0) (sols (w.drop i) p V0 0)).1 = bestF (sols (w.drop i) p V0 0) := rfl
        have hsK : Sub M' N1 := by
          intro b B hB
          refine hk1 b B ?_ (hsN _ _ hB)
          rintro (rfl | rfl)
          · rw [hbl] at hB; cases hB
          · rw [hbb'] at hB; cases hB
        have hbest := best_is (u := w.drop i) hpi (by intro e; rw [e] at hp1; simp at hp1)
        have hat : placeAt w p i = if 0 < (bestF (sols (w.drop i) p V0 0)).1 then some (i, (bestF (sols (w.drop i) p V0 0)).2) else none := rfl
        rw [hrun] at hJ1
        generalize bestF (sols (w.drop i) p V0 0) = s at *
        obtain ⟨j1, j2, j3⟩ := hJ1
        obtain ⟨least, best⟩ := s
        simp only at j1 j2 j3 hat
        by_cases h0 : 0 < least
        · have h0' : 0 < (least : Int) := by omega
          rw [if_pos h0] at hat
          have hpl : placeF w p = some (i, best) := placeTo_hit hlt hno hat
          rw [hpl] at h
          have hbn : (N1.del bb) bb = none := by simp [Mem.del]
          have hown : Own (N1.del bb) (.slice (some ⟨bb, 0, none⟩) 3 3) (strs best) N1 := .inr ⟨bb, 3, by rw [strs_length, j3.1], hbn, by rw [strs_length, j3.1]; omega, (del_put_same j2).symm⟩
          have hsD : Sub M (N1.del bb) := hs.trans (Sub.delN hsK hbb')
          simp (disch := omega) [get_of j1, h0']
          refine deleteFunc_does _ _ best (fun u => u.isEmpty) _ _ _ hown (firstPlace2_tells best) (by rw [j3.1]; omega) ?_
          intro v' M2 o2
          obtain ⟨M3, o3, s3⟩ := o2.base hsD
          simp (disch := omega)
          exact ret_sub s3 (h _ _ o3)
        · have h0' : ¬ 0 < (least : Int) := by omega
          rw [if_neg h0] at hat
          simp (disch := omega) [get_of j1, h0']
          exact Rnd.mk'' M' (i + 1) hsK (by omega) (by (repeat (first | exact km | refine kp rfl ?_ | refine km' rfl ?_))) (by simp (disch := omega)) ⟨by omega, hs, by rw [placeTo_succ hno, hat]⟩
    · have hi' : i = w.length := by omega
      subst hi'
      have e : placeF w p = none := hno
      rw [e] at h
      simp (disch := omega)
      exact ret_sub hs (h _ _ (Own.nil M))
end Go.Proofs.Ytbefijbmgmbphaa

/- Contracts: numbers of letters of iterates. -/
import Derived.Test.YtbefijbmgmbphaaM3
import Derived.Test.YtbefijbmgmbphaaE10
import Derived.Test.YtbefijbmgmbphaaC23
namespace Go.Proofs.Ytbefijbmgmbphaa
open Go
set_option linter.unusedSimpArgs false
set_option linter.unusedVariables false

theorem natsV_set (l : List Nat) (i n : Nat) : (natsV l).set i (.int .i64 n) = natsV (l.set i n) := by simp [natsV, List.map_set]
theorem natsV_rep (n m : Nat) : List.replicate n (Value.int .i64 (m : Nat)) = natsV (List.replicate n m) := by simp [natsV]
theorem natsV_flat (l : List Nat) : ∀ v ∈ natsV l, flatV v = true := by intro v hv; obtain ⟨_, _, rfl⟩ := List.mem_map.1 hv; rfl
theorem stab_at (b : Nat) (B : Blk) : Stab fun M => M b = some B := by
  intro M b' B' h hb
  have : b ≠ b' := by rintro rfl; rw [hb] at h; cases h
  show (M.put b' B') b = some B
  rw [put_ne _ _ this]; exact h
theorem stab_and {G H : Mem → Prop} (g : Stab G) (h : Stab H) : Stab fun M => G M ∧ H M := fun M b B hM hb => ⟨g M b B hM.1 hb, h M b B hM.2 hb⟩
theorem stab_rd (v : Value) (xs : List Value) : Stab fun M => Rd M v xs := fun M b B h hb => h.put hb B
theorem lettersM_does (v : Value) (ws : List (List UInt8)) (M : Mem) (R : Value → Mem → Prop) (hv : Rd M v (strs ws)) (hn : ws.length ≤ 1099511627776) (h : R (.int .i64 ws.length) M) : Does Try.prog 101 [.agg #[v]] M R :=
  letters_does v (strs ws) M R hv (by rw [strs_length]; exact hn) (by rw [strs_length]; exact h)
theorem lengthsAfter1_does (ws : List (List UInt8)) (x : Value) (a k : Int) (b3 b4 b5 : Nat) (K : Mem) (R : Value → Mem → Prop) (hv : Rd K x (strs ws)) (hn : ws.length ≤ 1099511627776) (k3 : K b3 = some (.cells true [x] 1)) (k4 : K b4 = some (.cells true [.int .i64 a] 1)) (k5 : K b5 = some (.cells true [.int .i64 k] 1))
    (h : R (.bool (decide (0 ≤ a ∧ a ≤ ws.length - 1) && decide (0 ≤ k ∧ k ≤ 20))) K) : Does Try.prog 143 [.pointer (some ⟨b4, 0, none⟩), .pointer (some ⟨b3, 0, none⟩), .pointer (some ⟨b5, 0, none⟩)] K R := by
  refine does_fn tab_ok Try.func143 rfl (by kernel_rfl) (by kernel_rfl) Try.ntmps143 Try.results143 rfl ?_
  simp (disch := omega)
  refine draw_to tab_ok (by kernel_rfl) (by kernel_rfl) (by rfl) ?_
  simp (disch := omega) [get_of k4, sub_of k3]
  refine vQCall_at (a := []) (c := []) (lettersM_does x ws _ _ hv hn ⟨rfl, rfl⟩) ?_
  simp (disch := omega)
  refine vQCall_at (a := []) (c := []) (within_does _ _ _ _ _ ⟨rfl, rfl⟩) ?_
  cases h1 : decide (0 ≤ a ∧ a ≤ (ws.length : Int) - 1)
  · rw [h1, Bool.false_and] at h
    simp (disch := omega)
    exact ret_of h
  · rw [h1, Bool.true_and] at h
    simp (disch := omega) [get_of k5]
    refine vQCall_at (a := []) (c := []) (within_does _ _ _ _ _ ⟨rfl, rfl⟩) ?_
    simp (disch := omega)
    exact ret_of (by simpa using h)
theorem codeL_of (ws : List (List UInt8)) (a k t : Int) : (if isMor ws then codeOf [] ([].all (fun u => fewB u ws.length) && (decide (0 ≤ a ∧ a ≤ (ws.length : Int) - 1) && decide (0 ≤ k ∧ k ≤ t))) else 1) = codeL ws a k t := by
  unfold codeL codeOf
  cases isMor ws
  · rfl
  · by_cases h1 : 0 ≤ a ∧ a ≤ (ws.length : Int) - 1
    · by_cases h2 : 0 ≤ k ∧ k ≤ t
      · simp [h1, h2]
      · simp only [decide_eq_true h1, decide_eq_false h2]; simp [h1, h2]
    · simp only [decide_eq_false h1]; simp [h1]
theorem impl_LengthsAfter (v : Value) (ws : List (List UInt8)) (a k : Int) (M : Mem) (R : Value → Mem → Prop) (hv : Rd M v (strs ws)) (hf : Fine ws) (hn : ws.length ≤ 1099511627776) (h : Lst (afterC ws a k) (natsV (afterR ws a k)) M R) : Does Try.prog 57 [.agg #[v], .int .i64 a, .int .i64 k] M R := by
  refine does_fn tab_ok Try.func57 rfl (by kernel_rfl) (by kernel_rfl) Try.ntmps57 Try.results57 rfl ?_
  obtain ⟨aa, c, rfl, ha⟩ := hv.opened
  rw [strs_length] at ha hv ⊢
  simp (disch := omega)
  intro b3 hb3
  simp (disch := omega)
  intro b4 hb4
  simp (disch := omega)
  intro b5 hb5
  have n4 := hb4
  have n5 := hb5
  rw [put_none] at n4
  rw [put_none, put_none] at n5
  have hs5 : Sub M (((M.put b3 (.cells true [.slice aa ws.length c] 1)).put b4 (.cells true [.int .i64 a] 1)).put b5 (.cells true [.int .i64 k] 1)) := (((Sub.refl M).put hb3 _).putN hb4 _).putN hb5 _
  have k3 : (((M.put b3 (.cells true [.slice aa ws.length c] 1)).put b4 (.cells true [.int .i64 a] 1)).put b5 (.cells true [.int .i64 k] 1)) b3 = some (.cells true [.slice aa ws.length c] 1) := by rw [put_ne _ _ (Ne.symm n5.2.1), put_ne _ _ (Ne.symm n4.1)]; exact put_same _ _ _
  have k4 : (((M.put b3 (.cells true [.slice aa ws.length c] 1)).put b4 (.cells true [.int .i64 a] 1)).put b5 (.cells true [.int .i64 k] 1)) b4 = some (.cells true [.int .i64 a] 1) := by rw [put_ne _ _ (Ne.symm n5.1)]; exact put_same _ _ _
  have k5 : (((M.put b3 (.cells true [.slice aa ws.length c] 1)).put b4 (.cells true [.int .i64 a] 1)).put b5 (.cells true [.int .i64 k] 1)) b5 = some (.cells true [.int .i64 k] 1) := put_same _ _ _
  simp (disch := omega) [n4.1, Ne.symm n4.1, n5.1, Ne.symm n5.1, n5.2.1, Ne.symm n5.2.1]
  generalize (((M.put b3 (.cells true [.slice aa ws.length c] 1)).put b4 (.cells true [.int .i64 a] 1)).put b5 (.cells true [.int .i64 k] 1)) = N1 at *
  have hv1 := hv.sub hs5
  refine morphismCode_does _ _ _ ws [] (decide (0 ≤ a ∧ a ≤ (ws.length : Int) - 1) && decide (0 ≤ k ∧ k ≤ 20)) (fun M' => Sub N1 M') _ _ hv1 hf hn (rd_nil N1) fine0 (by simp) rfl (Sub.refl N1) (fun M' b B q hb => q.putN hb B) ?_ ?_
  · intro K R' q hR'
    simp (disch := omega)
    exact lengthsAfter1_does ws _ a k b3 b4 b5 K R' (hv1.sub q) hn (q _ _ k3) (q _ _ k4) (q _ _ k5) hR'
  · rw [codeL_of]
    unfold afterC afterR at h
    by_cases h0 : codeL ws a k 20 = 0
    · obtain ⟨hm, ha0, ha1, hk0, hk1⟩ := codeL_zero h0
      rw [if_pos h0, if_pos h0] at h
      rw [h0]
      have h15 := mor_len hm
      have hw12 : ∀ w ∈ ws, w.length ≤ 12 := fun w hw => (mor_ok hm hw).1
      obtain ⟨a, rfl⟩ : ∃ n : Nat, a = n := ⟨a.toNat, by omega⟩
      obtain ⟨k, rfl⟩ : ∃ n : Nat, k = n := ⟨k.toNat, by omega⟩
      rw [Int.toNat_natCast, Int.toNat_natCast] at h
      have hal : a < ws.length := by omega
      simp (disch := omega) [sub_of k3]
      refine lettersM_does _ ws _ _ hv1 hn ?_
      simp (disch := omega)
      intro b9 hb9
      have s9 := (Sub.refl N1).put hb9 (.cells true (natsV (vecA ws a 0)) ws.length)
      have e0 : (List.replicate ws.length (Value.int .i64 0)).set a (.int .i64 1) = natsV (vecA ws a 0) := by
        have := natsV_rep ws.length 0
        have h2 := natsV_set (List.replicate ws.length 0) a 1
        rw [← this] at h2
        exact h2
      have hne4 : b4 ≠ b9 := by rintro rfl; rw [k4] at hb9; cases hb9
      have hne5 : b5 ≠ b9 := by rintro rfl; rw [k5] at hb9; cases hb9
      simp (disch := omega) [get_of k4, get_of k5, e0]
      have r9 : Rd (N1.put b9 (.cells true (natsV (vecA ws a 0)) ws.length)) (.slice (some ⟨b9, 0, none⟩) ws.length ws.length) (natsV (vecA ws a 0)) := Rd.new (by rw [natsV_length, vecA_length h15.2]) (Nat.le_refl _)
      generalize N1.put b9 (.cells true (natsV (vecA ws a 0)) ws.length) = N2 at *
      refine loop_to tab_ok [6, 7, 9, 10, 11, 12, 13, 14, 15, 16, 31, 32, 33, 34, 35, 36, 37, 38, 39, 40, 41, 42, 43, 44, 45, 46, 47, 48, 49, 50, 51, 52, 53, 54, 55, 56, 57, 58, 59, 60, 61, 62, 63, 64, 65, 66, 67, 68, 69, 70, 71, 72, 73] (fun x : Nat × Value × Value => [(31, .int .i64 x.1), (9, x.2.1), (10, x.2.2)]) (fun x M' => x.1 ≤ k + 1 ∧ okS ws a x.1 = true ∧ ∃ A, Sub N1 A ∧ Rd A x.2.1 (natsV (vecA ws a x.1)) ∧ Own A x.2.2 (natsV (outS ws a x.1)) M') (fun x => k + 1 - x.1) (0, .slice (some ⟨b9, 0, none⟩) ws.length ws.length, .slice none 0 0) (by kernel_rfl) (by simp (disch := omega)) ⟨by simp, rfl, N2, s9, r9, Own.nil N2⟩ ?_
      rintro ⟨r, vm, vo⟩ M' g ⟨hr, hok, A, sA, rA, oA⟩
      simp only at hr hok rA oA
      have sM := sA.trans oA.sub
      have q3 := sM _ _ k3
      by_cases hlt : r < k + 1
      · have hvl := vecA_length h15.2 a r
        have hvle := vecA_le hw12 h15.2 hok
        have hsum := sum_mem hvle
        have hvs : vecA ws a (r + 1) = nextTo ws (vecA ws a r) ws.length := vecA_succ ws a r
        have hoks := okS_succ ws a r
        have houts := outS_succ ws a r
        have hno := okS_no (ws := ws) (a := a) hlt
        have hol := outS_length ws a r
        have hnle := nextTo_le hw12 (vecA ws a r)
        have hnl := nextTo_length h15.2 (vecA ws a r)
        generalize vecA ws a r = vec at *
        have hs5' : vec.length * 12000000000000000 ≤ 5 * 12000000000000000 := Nat.mul_le_mul_right _ (by omega)
        have hstep : ∀ i, (vec.take i).sum ≤ vec.sum := fun i => sum_le_take vec i
        obtain ⟨a9, c9, rfl, ha9⟩ := rA.opened
        rw [natsV_length, hvl] at ha9
        rw [natsV_length, hvl] at rA ⊢
        rcases ha9 with hz | ⟨b0, o0, rfl, ha9⟩
        · omega
        simp (disch := omega) [sub_of q3]
        refine lettersM_does _ ws _ _ (hv1.sub sM) hn ?_
        simp (disch := omega)
        intro b12 hb12
        simp (disch := omega)
        have hnr : List.replicate ws.length (Value.int .i64 0) = natsV (nextTo ws vec 0) := natsV_rep ws.length 0
        refine loop_to tab_ok [11, 13, 14, 15, 16, 38, 39, 40, 41, 42, 43, 44, 45, 46, 47, 48, 49, 50, 51, 52, 53, 54, 55, 56, 57, 58, 59, 60, 61, 62, 63, 64, 65] (fun i : Nat => [(38, .int .i64 i), (11, .int .i64 (vec.take i).sum)]) (fun i M1 => i ≤ ws.length ∧ M1 = M'.put b12 (.cells true (natsV (nextTo ws vec i)) ws.length)) (fun i => ws.length - i) 0 (by kernel_rfl) (by simp (disch := omega)) ⟨by omega, by rw [hnr]⟩ ?_
        rintro i M1 g1 ⟨hi, rfl⟩
        have hni := hnl i
        have s12 : Sub M' (M'.put b12 (.cells true (natsV (nextTo ws vec i)) ws.length)) := (Sub.refl M').put hb12 _
        have q3' := s12 _ _ q3
        by_cases hil : i < ws.length
        · have hvi : i < vec.length := by omega
          have hgi := ha9 i hil
          rw [natsV_get, List.getElem?_eq_getElem hvi] at hgi
          have hgi' := get_keep (get_keep hgi oA.sub) s12
          have hsn : (vec.take (i + 1)).sum = (vec.take i).sum + vec[i] := by rw [take_snoc vec hvi, List.sum_append, List.sum_singleton]
          have hsn2 := hstep (i + 1)
          have hnx := nextTo_succ ws vec i
          have hgd : vec.getD i 0 = vec[i] := by rw [List.getD_eq_getElem?_getD, List.getElem?_eq_getElem hvi]; rfl
          have hgw : ws.getD i [] = ws[i] := by rw [List.getD_eq_getElem?_getD, List.getElem?_eq_getElem hil]; rfl
          rw [hgd, hgw] at hnx
          have hrl := rowN_length (m := ws.length) h15.2 ws[i]
          have hrle : ∀ t ∈ rowN ws.length ws[i], t ≤ 12 := fun t ht => Nat.le_trans (rowN_le ht) (hw12 _ (List.getElem_mem hil))
          have hacc := hnle i (by omega) (by omega)
          have hrv := rowN_rowM ws.length ws[i]
          have hcs := counts_split ws.length ws[i]
          obtain ⟨n, hnn⟩ : ∃ n, n = vec[i] := ⟨_, rfl⟩
          have hn12 : n ≤ 12000000000000000 := by rw [hnn]; exact hvle _ (List.getElem_mem hvi)
          rw [← hnn] at hsn hnx hgi'
          simp (disch := omega) [sub_of q3', hgi']
          refine row_does _ ws i _ _ ((hv1.sub sM).sub s12) hm hil ?_
          rintro br cr M2 hbr rfl
          have hbr' := hbr
          rw [put_none] at hbr'
          rw [hcs, hrv]
          obtain ⟨row, hrow⟩ : ∃ row, row = rowN ws.length ws[i] := ⟨_, rfl⟩
          rw [← hrow] at hnx hrl hrle ⊢
          generalize ints (List.drop ws.length (counts ws[i])) = rest at *
          generalize nextTo ws vec i = acc at *
          have har : acc.length = row.length := by omega
          simp (disch := omega)
          refine loop_to tab_ok [15, 16, 50, 51, 52, 53, 54, 55, 56, 57, 58, 59, 60, 61, 62, 63, 64] (fun j : Nat => [(50, .int .i64 j)]) (fun j M3 => j ≤ ws.length ∧ M3 = (M'.put b12 (.cells true (natsV (addJ acc n row j)) ws.length)).put br (.cells true (natsV row ++ rest) cr)) (fun j => ws.length - j) 0 (by kernel_rfl) (by simp (disch := omega)) ⟨by omega, by rw [addJ_zero]⟩ ?_
          rintro j M3 g3 ⟨hj, rfl⟩
          have hal' := addJ_length (n := n) (j := j) har (by omega)
          by_cases hjl : j < ws.length
          · have hja : j < acc.length := by omega
            have hjr : j < row.length := by omega
            have hg1 : (natsV row ++ rest)[j]? = some (.int .i64 (row[j] : Nat)) := by
              rw [List.getElem?_append_left (by rw [natsV_length]; exact hjr), natsV_get, List.getElem?_eq_getElem hjr]; rfl
            have hg2 : (natsV (addJ acc n row j))[j]? = some (.int .i64 (acc[j] : Nat)) := by rw [natsV_get, addJ_get har hja]; rfl
            have hset := addJ_succ (n := n) har hja
            have hp12 : n * row[j] ≤ 12000000000000000 * 12 := Nat.mul_le_mul hn12 (hrle _ (List.getElem_mem hjr))
            have hacj := hacc _ (List.getElem_mem hja)
            have hst := hstep i
            obtain ⟨p, hp⟩ : ∃ p, p = n * row[j] := ⟨_, rfl⟩
            have ep : (n : Int) * (row[j] : Nat) = (p : Int) := by rw [hp]; push_cast; rfl
            rw [← hp] at hset hp12
            have hset2 : (natsV (addJ acc n row j)).set j (.int .i64 ((acc[j] : Nat) + (p : Int))) = natsV (addJ acc n row (j + 1)) := by
              rw [← hset, ← natsV_set]
              push_cast
              rfl
            simp (disch := omega) [hbr'.1, Ne.symm hbr'.1, hg1, hg2, ep, hset2]
            refine ⟨by rw [natsV_length]; omega, ?_⟩
            simp (disch := omega)
            exact Rnd.mk' (j + 1) (by omega) (by (repeat (first | exact km | refine kp rfl ?_ | refine km' rfl ?_))) (by simp (disch := omega)) ⟨by omega, rfl⟩
          · have hj' : j = acc.length := by omega
            subst hj'
            rw [addJ_all har, ← hnx]
            simp (disch := omega)
            refine Rnd.mk'' (M'.put b12 (.cells true (natsV (nextTo ws vec (i + 1))) ws.length)) (i + 1) ((Sub.refl _).put (by rw [put_none]; exact hbr') _) (by omega) (by (repeat (first | exact km | refine kp rfl ?_ | refine km' rfl ?_))) (by simp (disch := omega) [hsn]) ⟨by omega, rfl⟩
        · have hi' : i = ws.length := by omega
          subst hi'
          rw [List.take_of_length_le (by omega)]
          have hob : okS ws a (r + 1) = true ∨ ¬ vec.sum ≤ 1000000000000000 := by
            by_cases hb : vec.sum ≤ 1000000000000000
            · left; rw [hoks, hok, decide_eq_true hb]; rfl
            · exact .inr hb
          by_cases hb : vec.sum ≤ 1000000000000000
          · have hb' : ¬ (1000000000000000 : Int) < (vec.sum : Nat) := by omega
            have hok1 := hob.resolve_right (fun hh => hh hb)
            rw [← hvs]
            have o12 := oA.push hb12 (.cells true (natsV (vecA ws a (r + 1))) ws.length)
            have hl1 := vecA_length h15.2 a (r + 1)
            have r12 : Rd (A.put b12 (.cells true (natsV (vecA ws a (r + 1))) ws.length)) (.slice (some ⟨b12, 0, none⟩) ws.length ws.length) (natsV (vecA ws a (r + 1))) := Rd.new (by rw [natsV_length, hl1]) (Nat.le_refl _)
            have sA2 : Sub N1 (A.put b12 (.cells true (natsV (vecA ws a (r + 1))) ws.length)) := sA.putN (none_of oA.sub hb12) _
            simp (disch := omega) [hb']
            intro b70 hb70
            simp (disch := omega)
            refine app_own o12 ((Sub.refl _).put hb70 _) (by simp (disch := omega); rfl) rfl rfl (by omega) (by simp (disch := omega)) (by simp (disch := omega); rw [natsV_length, hol]; omega) ?_
            intro v4 M4 N4 o4 s4
            simp (disch := omega)
            refine Rnd.mk'' M4 (r + 1, .slice (some ⟨b12, 0, none⟩) ws.length ws.length, v4) s4 (by simp only; omega) (by (repeat (first | exact km | refine kp rfl ?_ | refine km' rfl ?_))) (by simp (disch := omega)) ⟨by simp only; omega, hok1, _, sA2, r12, ?_⟩
            simp only
            rw [houts, ← natsV_snoc]
            exact o4
          · have hb' : (1000000000000000 : Int) < (vec.sum : Nat) := by omega
            rw [hno hb] at h
            simp (disch := omega) [hb']
            exact ret_sub ((hs5.trans sM).trans ((Sub.refl M').put hb12 _)) (h _ _ (Own.nil M))
      · have hr' : r = k + 1 := by omega
        subst hr'
        rw [hok, if_pos rfl, if_pos rfl] at h
        simp (disch := omega)
        obtain ⟨M2, o2, s2⟩ := oA.base (hs5.trans sA)
        exact ret_sub s2 (h vo M2 o2)
    · rw [if_neg h0, if_neg h0] at h
      have hb : (codeL ws a k 20 == 0) = false := beq_eq_false_iff_ne.2 h0
      generalize codeL ws a k 20 = code at *
      simp (disch := omega) [hb, h0]
      exact ret_sub hs5 (h _ _ (Own.nil M))
def codeT (ws : List (List UInt8)) (a : Int) : Int := if isMor ws then (if 0 ≤ a ∧ a ≤ (ws.length : Int) - 1 then 0 else 2) else 1
theorem codeL_in (ws : List (List UInt8)) (a k t : Int) : codeL ws a k t = if codeT ws a = 0 then (if 0 ≤ k ∧ k ≤ t then 0 else 2) else codeT ws a := by
  unfold codeL codeT
  cases isMor ws
  · rfl
  · by_cases h1 : 0 ≤ a ∧ a ≤ (ws.length : Int) - 1
    · by_cases h2 : 0 ≤ k ∧ k ≤ t <;> simp [h1, h2]
    · simp [h1]
theorem l06Letter_does (v : Value) (ws : List (List UInt8)) (a : Int) (M : Mem) (R : Value → Mem → Prop) (hv : Rd M v (strs ws)) (hf : Fine ws) (hn : ws.length ≤ 1099511627776) (h : R (.int .i64 (codeT ws a)) M) : Does Try.prog 141 [.agg #[v], .int .i64 a] M R := by
  refine does_fn tab_ok Try.func141 rfl (by kernel_rfl) (by kernel_rfl) Try.ntmps141 Try.results141 rfl ?_
  obtain ⟨aa, c, rfl, ha⟩ := hv.opened
  rw [strs_length] at hv ⊢
  simp (disch := omega)
  intro b1 hb1
  have hs1 : Sub M (M.put b1 (.cells true [.slice aa ws.length c] 1)) := (Sub.refl M).put hb1 _
  have hv1 := hv.put hb1 (.cells true [.slice aa ws.length c] 1)
  have k1 : (M.put b1 (.cells true [.slice aa ws.length c] 1)) b1 = some (.cells true [.slice aa ws.length c] 1) := put_same _ _ _
  simp (disch := omega)
  generalize M.put b1 (.cells true [.slice aa ws.length c] 1) = N1 at *
  refine l06Is_does _ ws _ _ hv1 hf hn ?_
  unfold codeT at h
  cases hm : isMor ws
  · rw [hm] at h
    simp (disch := omega)
    exact ret_sub hs1 h
  · rw [hm, if_pos rfl] at h
    simp (disch := omega) [get_of k1]
    refine l01In_does _ _ _ _ _ ?_
    by_cases h1 : 0 ≤ a ∧ a ≤ (ws.length : Int) - 1
    · rw [if_pos h1] at h
      rw [decide_eq_true h1]
      simp (disch := omega)
      exact ret_sub hs1 h
    · rw [if_neg h1] at h
      rw [decide_eq_false h1]
      simp (disch := omega)
      exact ret_sub hs1 h
set_option maxHeartbeats 4000000 in
theorem spec_LengthsAfter (v : Value) (ws : List (List UInt8)) (a k : Int) (M : Mem) (R : Value → Mem → Prop) (hv : Rd M v (strs ws)) (hf : Fine ws) (hn : ws.length ≤ 1099511627776) (h : Lst (afterC ws a k) (natsV (afterR ws a k)) M R) : Does Try.prog 58 [.agg #[v], .int .i64 a, .int .i64 k] M R := by
  refine does_fn tab_ok Try.func58 rfl (by kernel_rfl) (by kernel_rfl) Try.ntmps58 Try.results58 rfl ?_
  obtain ⟨aa, c, rfl, ha⟩ := hv.opened
  rw [strs_length] at ha hv ⊢
  simp (disch := omega)
  intro b3 hb3
  have hs3 : Sub M (M.put b3 (.cells true [.slice aa ws.length c] 1)) := (Sub.refl M).put hb3 _
  have hv3 := hv.put hb3 (.cells true [.slice aa ws.length c] 1)
  have k3 : (M.put b3 (.cells true [.slice aa ws.length c] 1)) b3 = some (.cells true [.slice aa ws.length c] 1) := put_same _ _ _
  simp (disch := omega)
  generalize M.put b3 (.cells true [.slice aa ws.length c] 1) = N1 at *
  refine l06Letter_does _ ws a _ _ hv3 hf hn ?_
  have hin := codeL_in ws a k 20
  unfold afterC afterR at h
  by_cases ht : codeT ws a = 0
  · rw [if_pos ht] at hin
    rw [ht]
    simp (disch := omega)
    refine l01In_does _ _ _ _ _ ?_
    by_cases hk : 0 ≤ k ∧ k ≤ 20
    · rw [if_pos hk] at hin
      rw [decide_eq_true hk]
      obtain ⟨hm, ha0, ha1, hk0, hk1⟩ := codeL_zero hin
      rw [if_pos hin, if_pos hin] at h
      have h15 := mor_len hm
      have hw12 : ∀ w ∈ ws, w.length ≤ 12 := fun w hw => (mor_ok hm hw).1
      obtain ⟨a, rfl⟩ : ∃ n : Nat, a = n := ⟨a.toNat, by omega⟩
      obtain ⟨k, rfl⟩ : ∃ n : Nat, k = n := ⟨k.toNat, by omega⟩
      rw [Int.toNat_natCast, Int.toNat_natCast] at h
      have hal : a < ws.length := by omega
      have e0 : (List.replicate ws.length (Value.int .i64 0)).set a (.int .i64 1) = natsV (vecA ws a 0) := by
        have := natsV_rep ws.length 0
        have h2 := natsV_set (List.replicate ws.length 0) a 1
        rw [← this] at h2
        exact h2
      simp (disch := omega) [sub_of k3, get_of k3]
      refine plays (lights [0, 2, 3, 4] (.alt 1 1 (.light 6 (.one 5 1 (.light 7 .fin))) (.one 5 1 (.one 1 1 (lights [6, 7] .fin))))) tab_ok (by kernel_rfl) (by kernel_rfl) (by rfl) ?_
      simp (disch := omega) [sub_of k3, get_of k3, vT_alt]
      refine ⟨?c1, ?c2⟩
      case' c1 =>
        refine l06Matrix_does _ ws _ _ hv3 hm ?_
        intro vm rs N2 M2 r2 o2
        have hs2 := r2.sub.trans o2.sub
        simp (disch := omega)
        refine ⟨hs2, ?_⟩
        intro b10 hb10
        have hmat : ∀ X, RdSS ((M2.put b10 (.cells true (List.replicate ws.length (Value.int .i64 0)) ws.length)).put b10 X) vm (matM ws) := fun X => by
          rw [put_put]
          exact (rdSS_of r2 o2).sub ((Sub.refl M2).put hb10 X)
        have hsub : ∀ X, Sub N1 ((M2.put b10 (.cells true (List.replicate ws.length (Value.int .i64 0)) ws.length)).put b10 X) := fun X => by
          rw [put_put]
          exact hs2.putN hb10 X
        have hK : (M2.put b10 (.cells true (List.replicate ws.length (Value.int .i64 0)) ws.length)) b10 = some (.cells true (List.replicate ws.length (Value.int .i64 0)) ws.length) := put_same _ _ _
        have hkk : Sub M2 (M2.put b10 (.cells true (List.replicate ws.length (Value.int .i64 0)) ws.length)) := (Sub.refl M2).put hb10 _
        clear hb10
        simp only [List.length_replicate]
        generalize M2.put b10 (.cells true (List.replicate ws.length (Value.int .i64 0)) ws.length) = K at *
        simp (disch := omega)
        refine ⟨hkk, ?_⟩
        clear r2 o2 hs2 hkk
      case' c2 =>
        intro b10 hb10
        have hs4 : Sub N1 (N1.put b10 (.cells true (List.replicate ws.length (Value.int .i64 0)) ws.length)) := (Sub.refl N1).put hb10 _
        simp (disch := omega)
        refine ⟨hs4, ?_⟩
        refine l06Matrix_does _ ws _ _ (hv3.sub hs4) hm ?_
        intro vm rs N2 K r2 o2
        have hs2 := r2.sub.trans o2.sub
        have hmat : ∀ X, RdSS (K.put b10 X) vm (matM ws) := fun X => rdSS_of (r2.other (put_same _ _ _) X) (o2.other (r2.sub _ _ (put_same _ _ _)) X)
        have hsub : ∀ X, Sub N1 (K.put b10 X) := fun X => by
          have s1 := (r2.other (put_same _ _ _) X).sub.trans (o2.other (r2.sub _ _ (put_same _ _ _)) X).sub
          rw [put_put] at s1
          exact ((Sub.refl N1).put hb10 X).trans s1
        have hK : K b10 = some (.cells true (List.replicate ws.length (Value.int .i64 0)) ws.length) := hs2 _ _ (put_same _ _ _)
        simp (disch := omega)
        refine ⟨hs2, ?_⟩
        clear r2 o2 hs2 hs4 hb10
      all_goals
        have hne3 : b3 ≠ b10 := by
          rintro rfl
          have := hsub (.cells true [] 0) _ _ k3
          rw [put_same] at this
          cases this
        simp (disch := omega) [hK, e0, set_is]
        have d1 := hmat (.cells true (natsV (vecA ws a 0)) ws.length)
        have s1 := hsub (.cells true (natsV (vecA ws a 0)) ws.length)
        have r1 : Rd (K.put b10 (.cells true (natsV (vecA ws a 0)) ws.length)) (.slice (some ⟨b10, 0, none⟩) ws.length ws.length) (natsV (vecA ws a 0)) := Rd.new (by rw [natsV_length, vecA_length h15.2]) (Nat.le_refl _)
        generalize K.put b10 (.cells true (natsV (vecA ws a 0)) ws.length) = N3 at *
        clear hmat hsub hK hne3
        obtain ⟨rs, hrs, hrl, hrow⟩ := d1
        rw [matM_length] at hrl
        obtain ⟨am, cm, rfl, ham⟩ := hrs.opened
        rw [hrl] at ham
        rcases ham with hz | ⟨bm, om, rfl, ham⟩
        · omega
        rw [hrl]
        intro b11 hb11
        simp (disch := omega)
        have hsum0 := vecA_sum0 hal h15.2
        have hok1 : okS ws a 1 = true := by rw [show (1 : Nat) = 0 + 1 from rfl, okS_succ, hsum0]; rfl
        have hout1 : outS ws a 1 = [1] := by rw [show (1 : Nat) = 0 + 1 from rfl, outS_succ, hsum0]; rfl
        refine loop_to tab_ok [2, 6, 7, 10, 11, 12, 13, 14, 15, 16, 40, 41, 42, 43, 44, 45, 46, 47, 48, 49, 50, 51, 52, 53, 54, 55, 56, 57, 58, 59, 60, 61, 62, 63, 64, 65, 66, 67, 68, 69, 70, 71, 72, 73, 74, 75, 76, 77, 78, 79, 80, 81, 82, 83, 84, 85, 86, 87, 88, 89, 90, 91, 92, 93, 94, 95, 96, 97] (fun x : Nat × Value × Value => [(2, .int .i64 ((k - x.1 : Nat) : Int)), (10, x.2.1), (11, x.2.2)]) (fun x M' => x.1 ≤ k ∧ okS ws a (x.1 + 1) = true ∧ ∃ A, Sub N3 A ∧ Rd A x.2.1 (natsV (vecA ws a x.1)) ∧ Own A x.2.2 (natsV (outS ws a (x.1 + 1))) M') (fun x => k - x.1) (0, .slice (some ⟨b10, 0, none⟩) ws.length ws.length, .slice (some ⟨b11, 0, none⟩) 1 1) (by kernel_rfl) (by simp (disch := omega)) ⟨by simp, hok1, N3, Sub.refl N3, r1, by rw [hout1]; exact Own.new (n := 1) (c := 1) (xs := natsV [1]) hb11 rfl (Nat.le_refl 1)⟩ ?_
        rintro ⟨r, vn, vo⟩ M' g ⟨hr, hok, A, sA, rA, oA⟩
        simp only at hr hok rA oA
        obtain ⟨t, hteq⟩ : ∃ t, t = k - r := ⟨_, rfl⟩
        rw [← hteq]
        have sM := sA.trans oA.sub
        by_cases hlt : r < k
        · have ht0 : 0 < t := by omega
          have hok0 : okS ws a r = true := by rw [okS_succ, Bool.and_eq_true] at hok; exact hok.1
          have hvl := vecA_length h15.2 a r
          have hvle := vecA_le hw12 h15.2 hok0
          have hsum := sum_mem hvle
          have hvs : vecA ws a (r + 1) = nextTo ws (vecA ws a r) ws.length := vecA_succ ws a r
          have hoks := okS_succ ws a (r + 1)
          have houts := outS_succ ws a (r + 1)
          have hno := okS_no (ws := ws) (a := a) (r := r + 1) (k := k + 1) (by omega)
          have hol := outS_length ws a (r + 1)
          have hnle := nextTo_le hw12 (vecA ws a r)
          have hnl := nextTo_length h15.2 (vecA ws a r)
          generalize vecA ws a r = vec at *
          have hs5' : vec.length * 12000000000000000 ≤ 5 * 12000000000000000 := Nat.mul_le_mul_right _ (by omega)
          have hstep : ∀ i, (vec.take i).sum ≤ vec.sum := fun i => sum_le_take vec i
          obtain ⟨a9, c9, rfl, ha9⟩ := rA.opened
          rw [natsV_length, hvl] at ha9
          rw [natsV_length, hvl] at rA ⊢
          rcases ha9 with hz | ⟨b0, o0, rfl, ha9⟩
          · omega
          simp (disch := omega)
          intro b12 hb12
          simp (disch := omega)
          have hnr : List.replicate ws.length (Value.int .i64 0) = natsV (nextTo ws vec 0) := natsV_rep ws.length 0
          refine loop_to tab_ok [14, 15, 47, 48, 49, 50, 51, 52, 53, 54, 55, 56, 57, 58, 59, 60, 61, 62, 63, 64, 65, 66, 67, 68, 69, 70, 71, 72, 73, 74, 75, 76, 77, 78] (fun i : Nat => [(14, .int .i64 i)]) (fun i M1 => i ≤ ws.length ∧ M1 = M'.put b12 (.cells true (natsV (nextTo ws vec i)) ws.length)) (fun i => ws.length - i) 0 (by kernel_rfl) (by simp (disch := omega)) ⟨by omega, by rw [hnr]⟩ ?_
          rintro i M1 g1 ⟨hi, rfl⟩
          have hni := hnl i
          by_cases hil : i < ws.length
          · have hvi : i < vec.length := by omega
            have hgi := ha9 i hil
            rw [natsV_get, List.getElem?_eq_getElem hvi] at hgi
            have hgi0 := get_keep hgi oA.sub
            have hnx := nextTo_succ ws vec i
            have hgd : vec.getD i 0 = vec[i] := by rw [List.getD_eq_getElem?_getD, List.getElem?_eq_getElem hvi]; rfl
            have hgw : ws.getD i [] = ws[i] := by rw [List.getD_eq_getElem?_getD, List.getElem?_eq_getElem hil]; rfl
            rw [hgd, hgw] at hnx
            have hrl2 := rowN_length (m := ws.length) h15.2 ws[i]
            have hrle : ∀ t ∈ rowN ws.length ws[i], t ≤ 12 := fun t ht => Nat.le_trans (rowN_le ht) (hw12 _ (List.getElem_mem hil))
            have hacc := hnle i (by omega) (by omega)
            have hrv := rowN_rowM ws.length ws[i]
            obtain ⟨n, hnn⟩ : ∃ n, n = vec[i] := ⟨_, rfl⟩
            have hn12 : n ≤ 12000000000000000 := by rw [hnn]; exact hvle _ (List.getElem_mem hvi)
            have hmi : (matM ws)[i]? = some (rowM ws.length ws[i]) := by rw [List.getElem?_eq_getElem (by rw [matM_length]; exact hil), matM_get hil]
            obtain ⟨x, hx, hxr⟩ := hrow i _ hmi
            have hxl : (ints (rowM ws.length ws[i])).length = ws.length := by rw [ints_length, rowM_length h15.2]
            obtain ⟨ax, cx, rfl, hax⟩ := hxr.opened
            rw [hxl] at hax hx
            rcases hax with hz | ⟨bx, ox, rfl, hax⟩
            · omega
            have hgm := ham i hil
            rw [hx] at hgm
            have hgm0 := get_keep hgm sM
            rw [hrv] at hax
            rw [← hnn] at hnx hgi0
            obtain ⟨row, hrw⟩ : ∃ row, row = rowN ws.length ws[i] := ⟨_, rfl⟩
            rw [← hrw] at hnx hrl2 hrle hax
            generalize nextTo ws vec i = acc at *
            have har : acc.length = row.length := by omega
            simp (disch := omega)
            refine loop_to tab_ok [15, 53, 54, 55, 56, 57, 58, 59, 60, 61, 62, 63, 64, 65, 66, 67, 68, 69, 70, 71, 72, 73, 74, 75, 76, 77, 78] (fun j : Nat => [(15, .int .i64 j)]) (fun j M3 => j ≤ ws.length ∧ M3 = M'.put b12 (.cells true (natsV (addJ acc n row j)) ws.length)) (fun j => ws.length - j) 0 (by kernel_rfl) (by simp (disch := omega)) ⟨by omega, by rw [addJ_zero]⟩ ?_
            rintro j M3 g3 ⟨hj, rfl⟩
            have hal' := addJ_length (n := n) (j := j) har (by omega)
            by_cases hjl : j < ws.length
            · have hja : j < acc.length := by omega
              have hjr : j < row.length := by omega
              have s12 : Sub M' (M'.put b12 (.cells true (natsV (addJ acc n row j)) ws.length)) := (Sub.refl M').put hb12 _
              have hgx := hax j hjl
              rw [natsV_get, List.getElem?_eq_getElem hjr] at hgx
              have hgx' := get_keep (get_keep hgx sM) s12
              have hgm' := get_keep hgm0 s12
              have hgi' := get_keep hgi0 s12
              have hg2 : (natsV (addJ acc n row j))[j]? = some (.int .i64 (acc[j] : Nat)) := by rw [natsV_get, addJ_get har hja]; rfl
              have hset := addJ_succ (n := n) har hja
              have hp12 : n * row[j] ≤ 12000000000000000 * 12 := Nat.mul_le_mul hn12 (hrle _ (List.getElem_mem hjr))
              have hacj := hacc _ (List.getElem_mem hja)
              have hst := hstep i
              obtain ⟨p, hp⟩ : ∃ p, p = n * row[j] := ⟨_, rfl⟩
              have ep : (n : Int) * (row[j] : Nat) = (p : Int) := by rw [hp]; push_cast; rfl
              rw [← hp] at hset hp12
              have hset2 : (natsV (addJ acc n row j)).set j (.int .i64 ((acc[j] : Nat) + (p : Int))) = natsV (addJ acc n row (j + 1)) := by
                rw [← hset, ← natsV_set]
                push_cast
                rfl
              simp (disch := omega)
              refine draws [0, 1, 2, 3, 4, 5, 6, 7, 8, 9, 10, 11, 12, 13, 14, 15, 16, 17, 18, 19, 20] [0, 0, 0, 0, 0, 0, 0, 0, 0, 0, 0, 0, 0, 0, 0, 0, 0, 0, 0, 0, 2] tab_ok (by kernel_rfl) (by kernel_rfl) (by kernel_rfl) (by rfl) ?_
              simp (disch := omega) [hg2, hgi', hgm', hgx', ep, hset2]
              refine ⟨by rw [natsV_length]; omega, ?_⟩
              simp (disch := omega)
              exact Rnd.mk' (j + 1) (by omega) (by (repeat (first | exact km | refine kp rfl ?_ | refine km' rfl ?_))) (by simp (disch := omega)) ⟨by omega, rfl⟩
            · have hj' : j = acc.length := by omega
              subst hj'
              rw [addJ_all har, ← hnx]
              simp (disch := omega)
              exact Rnd.mk' (i + 1) (by omega) (by (repeat (first | exact km | refine kp rfl ?_ | refine km' rfl ?_))) (by simp (disch := omega)) ⟨by omega, rfl⟩
          · have hi' : i = ws.length := by omega
            subst hi'
            rw [← hvs]
            have hnv : ∀ x ∈ vecA ws a (r + 1), x ≤ 720000000000000000 := fun x hx => by
              rw [hvs] at hx
              have := hnle ws.length (Nat.le_refl _) (by omega) x hx
              rw [List.take_of_length_le (by omega)] at this
              omega
            have hl1 := vecA_length h15.2 a (r + 1)
            have hns := sum_mem hnv
            obtain ⟨nx, hnx'⟩ : ∃ nx, nx = vecA ws a (r + 1) := ⟨_, rfl⟩
            rw [← hnx'] at hvs hoks houts hno hnv hl1 hns ⊢
            have hns' : nx.length * 720000000000000000 ≤ 5 * 720000000000000000 := Nat.mul_le_mul_right _ (by omega)
            simp (disch := omega)
            refine loop_to tab_ok [13, 16, 79, 80, 81, 82, 83, 84, 85, 86, 87, 88, 89, 90] (fun j : Nat => [(16, .int .i64 j), (13, .int .i64 (nx.take j).sum)]) (fun j M3 => j ≤ ws.length ∧ M3 = M'.put b12 (.cells true (natsV nx) ws.length)) (fun j => ws.length - j) 0 (by kernel_rfl) (by simp (disch := omega)) ⟨by omega, rfl⟩ ?_
            rintro j M3 g3 ⟨hj, rfl⟩
            by_cases hjl : j < ws.length
            · have hjn : j < nx.length := by omega
              have hg2 : (natsV nx)[j]? = some (.int .i64 (nx[j] : Nat)) := by rw [natsV_get, List.getElem?_eq_getElem hjn]; rfl
              have hsn : (nx.take (j + 1)).sum = (nx.take j).sum + nx[j] := by rw [take_snoc nx hjn, List.sum_append, List.sum_singleton]
              have hsl := sum_take_le nx j hjn
              simp (disch := omega) [hg2]
              exact Rnd.mk' (j + 1) (by omega) (by (repeat (first | exact km | refine kp rfl ?_ | refine km' rfl ?_))) (by simp (disch := omega) [hsn]) ⟨by omega, rfl⟩
            · have hj' : j = ws.length := by omega
              subst hj'
              rw [List.take_of_length_le (by omega)]
              by_cases hb : nx.sum ≤ 1000000000000000
              · have hb' : ¬ (1000000000000000 : Int) < (nx.sum : Nat) := by omega
                have o12 := oA.push hb12 (.cells true (natsV nx) ws.length)
                have r12 : Rd (A.put b12 (.cells true (natsV nx) ws.length)) (.slice (some ⟨b12, 0, none⟩) ws.length ws.length) (natsV nx) := Rd.new (by rw [natsV_length, hl1]) (Nat.le_refl _)
                have sA2 : Sub N3 (A.put b12 (.cells true (natsV nx) ws.length)) := sA.putN (none_of oA.sub hb12) _
                simp (disch := omega) [hb']
                intro b70 hb70
                simp (disch := omega)
                refine app_own o12 ((Sub.refl _).put hb70 _) (by simp (disch := omega); rfl) rfl rfl (by omega) (by simp (disch := omega)) (by simp (disch := omega); rw [natsV_length, hol]; omega) ?_
                intro v4 M4 N4 o4 s4
                simp (disch := omega)
                refine Rnd.mk'' M4 (r + 1, .slice (some ⟨b12, 0, none⟩) ws.length ws.length, v4) s4 (by simp only; omega) (by (repeat (first | exact km | refine kp rfl ?_ | refine km' rfl ?_))) (by simp (disch := omega); omega) ⟨by simp only; omega, by rw [hoks, hok, decide_eq_true hb]; rfl, _, sA2, ?_, ?_⟩
                · simp only
                  rw [← hnx']
                  exact r12
                · simp only
                  rw [houts, ← natsV_snoc]
                  exact o4
              · have hb' : (1000000000000000 : Int) < (nx.sum : Nat) := by omega
                rw [hno hb] at h
                simp (disch := omega) [hb']
                exact ret_sub (((hs3.trans s1).trans sM).trans ((Sub.refl M').put hb12 _)) (h _ _ (Own.nil M))
        · have hr' : r = k := by omega
          have ht0 : t = 0 := by omega
          subst hr'
          rw [hok, if_pos rfl, if_pos rfl] at h
          rw [ht0]
          simp (disch := omega)
          obtain ⟨M2, o2, s2⟩ := oA.base ((hs3.trans s1).trans sA)
          exact ret_sub s2 (h vo M2 o2)
    · rw [if_neg hk] at hin
      have hne : ¬ codeL ws a k 20 = 0 := by rw [hin]; decide
      rw [if_neg hne, if_neg hne, hin] at h
      rw [decide_eq_false hk]
      simp (disch := omega)
      exact ret_sub hs3 (h _ _ (Own.nil M))
  · rw [if_neg ht] at hin
    have hb : (codeT ws a == 0) = false := beq_eq_false_iff_ne.2 ht
    rw [if_neg (by rw [hin]; exact ht), if_neg (by rw [hin]; exact ht), hin] at h
    generalize codeT ws a = code at *
    simp (disch := omega) [hb, ht]
    exact ret_sub hs3 (h _ _ (Own.nil M))
end Go.Proofs.Ytbefijbmgmbphaa

/- Contracts: primitive morphisms. -/
import Derived.Test.YtbefijbmgmbphaaM5
namespace Go.Proofs.Ytbefijbmgmbphaa
open Go
set_option linter.unusedSimpArgs false
set_option linter.unusedVariables false

theorem pow_le5 {i : Nat} (h : i ≤ 5) : 2 ^ i ≤ 32 := by
  have : i = 0 ∨ i = 1 ∨ i = 2 ∨ i = 3 ∨ i = 4 ∨ i = 5 := by omega
  rcases this with rfl | rfl | rfl | rfl | rfl | rfl <;> decide
theorem shl_b {i : Nat} (h : i ≤ 5) : IntKind.i64.wrap (2 ^ (min i IntKind.i64.bits)) = ((2 ^ i : Nat) : Int) := by
  have : i = 0 ∨ i = 1 ∨ i = 2 ∨ i = 3 ∨ i = 4 ∨ i = 5 := by omega
  rcases this with rfl | rfl | rfl | rfl | rfl | rfl <;> decide
theorem shr_b {s i : Nat} (h : i ≤ 5) : (s : Int).fdiv (2 ^ (min i IntKind.i64.bits)) = ((s / 2 ^ i : Nat) : Int) := by
  have e : min i IntKind.i64.bits = i := by show min i 64 = i; omega
  rw [e, Int.fdiv_eq_ediv_of_nonneg _ (by exact Int.le_of_lt (Int.pow_pos (by decide)))]
  push_cast
  rfl
theorem and_b {x : Nat} (h : x < 32) : IntKind.i64.wrap (BitVec.ofInt IntKind.i64.bits (x : Int) &&& BitVec.ofInt IntKind.i64.bits 1).toNat = ((x % 2 : Nat) : Int) := by
  have : ∀ y : Fin 32, IntKind.i64.wrap (BitVec.ofInt IntKind.i64.bits ((y.val : Nat) : Int) &&& BitVec.ofInt IntKind.i64.bits 1).toNat = ((y.val % 2 : Nat) : Int) := by decide
  exact this ⟨x, h⟩
theorem or_b {x y : Nat} (h : x < 32) (h' : y < 32) : IntKind.i64.wrap (BitVec.ofInt IntKind.i64.bits (x : Int) ||| BitVec.ofInt IntKind.i64.bits (y : Int)).toNat = ((x ||| y : Nat) : Int) := by
  have e : ∀ z : Nat, BitVec.ofInt IntKind.i64.bits (z : Int) = BitVec.ofNat 64 z := fun z => by
    show BitVec.ofInt 64 (z : Int) = BitVec.ofNat 64 z
    exact BitVec.ofInt_natCast 64 z
  have hxy : x ||| y < 2 ^ 5 := Nat.or_lt_two_pow (n := 5) h h'
  rw [e, e]
  show IntKind.i64.wrap ((BitVec.ofNat 64 x ||| BitVec.ofNat 64 y).toNat : Int) = _
  rw [BitVec.toNat_or, BitVec.toNat_ofNat, BitVec.toNat_ofNat, Nat.mod_eq_of_lt (by omega), Nat.mod_eq_of_lt (by omega)]
  exact wrap64_eq (by omega) (by omega)
/-- Bits, behind names (so that no rule touches them). -/
def bitN (i : Nat) : Nat := 2 ^ i
def bitAt (s i : Nat) : Nat := s / 2 ^ i
def bitOf (s i : Nat) : Nat := s / 2 ^ i % 2
def orN (a b : Nat) : Nat := a ||| b
theorem shlO {T : Tab} {t : TypeId} {k : IntKind} {i : Nat} (h : i ≤ 5) : binR T .shl t (.int .i64 1) (.int k (i : Int)) = .need (0 ≤ (i : Int)) (.int .i64 (bitN i : Nat)) := by
  rw [bin_shl, Int.one_mul, Int.toNat_natCast, shl_b h]; rfl
theorem shrO {T : Tab} {t : TypeId} {k : IntKind} {s i : Nat} (h : i ≤ 5) : binR T .shr t (.int .i64 (s : Int)) (.int k (i : Int)) = .need (0 ≤ (i : Int)) (.int .i64 (bitAt s i : Nat)) := by
  rw [bin_shr, Int.toNat_natCast, shr_b h]; rfl
theorem andO {T : Tab} {t : TypeId} {s i : Nat} (h : bitAt s i < 32) : binR T .and t (.int .i64 (bitAt s i : Nat)) (.int .i64 1) = .ok (.int .i64 (bitOf s i : Nat)) := by
  rw [bin_and, and_b h]; rfl
theorem orO {T : Tab} {t : TypeId} {x y : Nat} (h : x < 32 ∧ y < 32) : binR T .or t (.int .i64 (x : Int)) (.int .i64 (y : Int)) = .ok (.int .i64 (orN x y : Nat)) := by
  rw [bin_or, or_b h.1 h.2]; rfl
theorem bitAt_le (s i : Nat) : bitAt s i ≤ s := Nat.div_le_self _ _
theorem bitN_lt {i m : Nat} (h : i < m) (hm : m ≤ 5) : bitN i < 32 := by
  have := pow_le5 (i := i + 1) (by omega)
  unfold bitN
  rw [Nat.pow_succ] at this
  omega
theorem stepB_does (x : Value) (ws : List (List UInt8)) (s b1 : Nat) (K : Mem) (R : Value → Mem → Prop) (hv : Rd K x (strs ws)) (hm : isMor ws = true) (k1 : K b1 = some (.cells true [x] 1)) (hs : s < 2 ^ ws.length) (h : R (.int .i64 (stepB ws s)) K) : Does Try.prog 200 [.int .i64 s, .pointer (some ⟨b1, 0, none⟩)] K R := by
  have h15 := mor_len hm
  have h32 := pow_le5 h15.2
  obtain ⟨a, c, rfl, ha⟩ := hv.opened
  rw [strs_length] at ha hv k1
  rcases ha with h0 | ⟨b, o, rfl, ha⟩
  · omega
  refine does_fn tab_ok Try.func200 rfl (by kernel_rfl) (by kernel_rfl) Try.ntmps200 Try.results200 rfl ?_
  simp (disch := omega) [get_of k1]
  refine loop_to tab_ok [4, 5, 6, 8, 12, 13, 14, 15, 16, 17, 18, 19, 20, 21, 22, 23, 24, 25, 26, 27, 28, 29, 30, 31, 32, 33, 34, 35] (fun i : Nat => [(12, .int .i64 i), (4, .int .i64 (stepTo ws s i))]) (fun i M' => M' = K ∧ i ≤ ws.length) (fun i => ws.length - i) 0 (by kernel_rfl) (by simp (disch := omega) [stepTo_zero]) ⟨rfl, by omega⟩ ?_
  rintro i M' g ⟨rfl, hi⟩
  by_cases hlt : i < ws.length
  · have hg := ha i hlt
    rw [strs_get, List.getElem?_eq_getElem hlt] at hg
    have hst := stepTo_lt hm s i hi
    have hsn := stepTo_succ ws s i
    have hgd : ws.getD i [] = ws[i] := by rw [List.getD_eq_getElem?_getD, List.getElem?_eq_getElem hlt]; rfl
    rw [hgd] at hsn
    have hlt2 := let_lt hm hlt
    rw [hgd] at hlt2
    have hwo := mor_ok hm (List.getElem_mem hlt)
    obtain ⟨w, hw⟩ : ∃ w, w = ws[i] := ⟨_, rfl⟩
    rw [← hw] at hg hsn hlt2 hwo
    have hba := bitAt_le s i
    have hif : bitOf s i = 1 ↔ s / 2 ^ i % 2 = 1 := Iff.rfl
    simp (disch := omega) [-bin_shl, -bin_shr, -bin_and, -bin_or, shrO, andO, hg]
    by_cases hbit : bitOf s i = 1
    · have hb : ((bitOf s i : Int) == 1) = true := by rw [hbit]; rfl
      rw [if_pos (hif.1 hbit)] at hsn
      generalize stepTo ws s i = acc at *
      simp (disch := omega) [hb]
      intro b2 c2 hb2 hc2
      simp (disch := omega)
      have k2 : (M'.put b2 (.cells true (bytesV w) c2)) b2 = some (.cells true (bytesV w) c2) := put_same _ _ _
      refine loop_to tab_ok [4, 8, 25, 26, 27, 28, 29, 30, 31, 32, 33, 34] (fun q : Nat => [(25, .int .i64 q), (4, .int .i64 (bitW acc (w.take q)))]) (fun q M1 => M1 = M'.put b2 (.cells true (bytesV w) c2) ∧ q ≤ w.length) (fun q => w.length - q) 0 (by kernel_rfl) (by simp (disch := omega) [bitW]) ⟨rfl, by omega⟩ ?_
      rintro q M1 g1 ⟨rfl, hq⟩
      have hlt3 := bitW_lt (m := ws.length) (w.take q) acc hst fun u hu => hlt2 u (List.mem_of_mem_take hu)
      by_cases hql : q < w.length
      · have hx : w[q]? = some w[q] := List.getElem?_eq_getElem hql
        have hlq := isL_range (List.all_eq_true.1 (isWord_all hwo.2.1) _ (List.getElem_mem hql))
        have hl3 := hlt2 _ (List.getElem_mem hql)
        have hsn2 : bitW acc (w.take (q + 1)) = orN (bitW acc (w.take q)) (bitN (w[q].toNat - 97)) := by rw [take_snoc w hql, bitW_snoc]; rfl
        have hbn := bitN_lt hl3 h15.2
        have e97 : ((w[q].toNat : Int) - 97) = ((w[q].toNat - 97 : Nat) : Int) := by omega
        generalize w[q].toNat - 97 = kk at *
        simp (disch := omega) [hx]
        refine number_does _ _ _ ?_
        rw [e97]
        simp (disch := omega) [-bin_shl, -bin_shr, -bin_and, -bin_or, shlO, orO]
        exact Rnd.mk' (q + 1) (by omega) (by (repeat (first | exact km | refine kp rfl ?_ | refine km' rfl ?_))) (by simp (disch := omega) [hsn2]) ⟨rfl, by omega⟩
      · have hq' : q = w.length := by omega
        subst hq'
        rw [List.take_length]
        simp (disch := omega)
        exact Rnd.mk'' M' (i + 1) ((Sub.refl M').put hb2 _) (by omega) (by (repeat (first | exact km | refine kp rfl ?_ | refine km' rfl ?_))) (by simp (disch := omega) [hsn]) ⟨rfl, by omega⟩
    · have hb : ((bitOf s i : Int) == 1) = false := beq_eq_false_iff_ne.2 (by omega)
      rw [if_neg (fun hh => hbit (hif.2 hh))] at hsn
      simp (disch := omega) [hb]
      exact Rnd.mk' (i + 1) (by omega) (by (repeat (first | exact km | refine kp rfl ?_ | refine km' rfl ?_))) (by simp (disch := omega) [hsn]) ⟨rfl, by omega⟩
  · have hi' : i = ws.length := by omega
    subst hi'
    simp (disch := omega)
    exact ret_of h
/-- The sets after k steps. -/
def lstB (ws : List (List UInt8)) (k : Nat) : List Nat := (List.range ws.length).map fun i => iterB ws k (2 ^ i)
theorem lstB_length (ws : List (List UInt8)) (k : Nat) : (lstB ws k).length = ws.length := by simp [lstB]
theorem lstB_get (ws : List (List UInt8)) (k : Nat) {i : Nat} (h : i < ws.length) : (lstB ws k)[i]? = some (iterB ws k (2 ^ i)) := by simp [lstB, h]
def list0 (i : Nat) : List Nat := (List.range i).map bitN
theorem list0_succ (i : Nat) : list0 (i + 1) = list0 i ++ [bitN i] := by simp [list0, List.range_succ]
theorem list0_length (i : Nat) : (list0 i).length = i := by simp [list0]
theorem list0_all (ws : List (List UInt8)) : list0 ws.length = lstB ws 0 := rfl
/-- The first i of them one step further. -/
def mixB (ws : List (List UInt8)) (k i : Nat) : List Nat := (lstB ws (k + 1)).take i ++ (lstB ws k).drop i
theorem mixB_zero (ws : List (List UInt8)) (k : Nat) : mixB ws k 0 = lstB ws k := by simp [mixB]
theorem mixB_length (ws : List (List UInt8)) (k : Nat) {i : Nat} (h : i ≤ ws.length) : (mixB ws k i).length = ws.length := by
  unfold mixB
  rw [List.length_append, List.length_take, List.length_drop, lstB_length, lstB_length]; omega
theorem mixB_all (ws : List (List UInt8)) (k : Nat) : mixB ws k ws.length = lstB ws (k + 1) := by
  unfold mixB
  rw [List.take_of_length_le (by rw [lstB_length]; exact Nat.le_refl _), List.drop_of_length_le (by rw [lstB_length]; exact Nat.le_refl _), List.append_nil]
theorem mixB_get (ws : List (List UInt8)) (k : Nat) {i : Nat} (h : i < ws.length) : (mixB ws k i)[i]? = some (iterB ws k (2 ^ i)) := by
  unfold mixB
  rw [List.getElem?_append_right (by rw [List.length_take]; omega), List.length_take, lstB_length, Nat.min_eq_left (by omega), Nat.sub_self, List.getElem?_drop, Nat.add_zero, lstB_get ws k h]
theorem mixB_set (ws : List (List UInt8)) (k : Nat) {i : Nat} (h : i < ws.length) : (mixB ws k i).set i (iterB ws (k + 1) (2 ^ i)) = mixB ws k (i + 1) := by
  have hg := lstB_get ws (k + 1) h
  rw [List.getElem?_eq_getElem (by rw [lstB_length]; exact h)] at hg
  injection hg with hg
  unfold mixB
  rw [List.set_append_right _ _ (by rw [List.length_take]; omega), List.length_take, lstB_length, Nat.min_eq_left (by omega), Nat.sub_self, List.drop_eq_getElem_cons (by rw [lstB_length]; exact h), List.set_cons_zero, take_snoc (lstB ws (k + 1)) (by rw [lstB_length]; exact h), hg, List.append_assoc]
  rfl
theorem natsV_setB (l : List Nat) (i n : Nat) : (natsV l).set i (.int .i64 n) = natsV (l.set i n) := by simp [natsV, List.map_set]
def isFull (m : Nat) : Value → Bool
  | .int .i64 n => n == (bitN m : Int) - 1
  | _ => false
theorem full_eq {m x : Nat} : ((x : Int) == (bitN m : Int) - 1) = (x == 2 ^ m - 1) := by
  have h1 : 1 ≤ bitN m := Nat.two_pow_pos m
  have h2 : bitN m = 2 ^ m := rfl
  rw [Bool.eq_iff_iff, beq_iff_eq, beq_iff_eq]
  omega
theorem all_full (ws : List (List UInt8)) (k : Nat) : (natsV (lstB ws k)).all (isFull ws.length) = fullB ws k := by
  unfold natsV lstB fullB
  rw [List.map_map, List.all_map]
  congr 1
  funext i
  exact full_eq
theorem isPrimitive_does (v : Value) (ws : List (List UInt8)) (M : Mem) (R : Value → Mem → Prop) (hv : Rd M v (strs ws)) (hm : isMor ws = true) (h : R (.bool (primTo ws (ws.length * ws.length))) M) : Does Try.prog 147 [.agg #[v]] M R := by
  rw [← primTo_more hm] at h
  have h15 := mor_len hm
  have h32 := pow_le5 h15.2
  refine does_fn tab_ok Try.func147 rfl (by kernel_rfl) (by kernel_rfl) Try.ntmps147 Try.results147 rfl ?_
  obtain ⟨a, c, rfl, ha⟩ := hv.opened
  rw [strs_length] at ha hv ⊢
  have hb32 : bitN ws.length ≤ 32 := h32
  have hb1' : 1 ≤ bitN ws.length := Nat.two_pow_pos _
  simp (disch := omega)
  intro b1 hb1
  simp (disch := omega) [-bin_shl, shlO]
  intro b3 hb3
  have n3 := hb3
  rw [put_none] at n3
  have s3 : Sub M ((M.put b1 (.cells true [.slice a ws.length c] 1)).put b3 (.cells true [.int .i64 ((bitN ws.length : Int) - 1)] 1)) := ((Sub.refl M).put hb1 _).putN hb3 _
  have k1 : ((M.put b1 (.cells true [.slice a ws.length c] 1)).put b3 (.cells true [.int .i64 ((bitN ws.length : Int) - 1)] 1)) b1 = some (.cells true [.slice a ws.length c] 1) := by rw [put_ne _ _ (Ne.symm n3.1)]; exact put_same _ _ _
  have k3 : ((M.put b1 (.cells true [.slice a ws.length c] 1)).put b3 (.cells true [.int .i64 ((bitN ws.length : Int) - 1)] 1)) b3 = some (.cells true [.int .i64 ((bitN ws.length : Int) - 1)] 1) := put_same _ _ _
  have hv3 := hv.sub s3
  simp (disch := omega) [-bin_shl, shlO, n3.1, Ne.symm n3.1]
  generalize (M.put b1 (.cells true [.slice a ws.length c] 1)).put b3 (.cells true [.int .i64 ((bitN ws.length : Int) - 1)] 1) = N at *
  refine loop_to tab_ok [5, 6, 18, 19, 20, 21, 22, 23, 24, 25, 26] (fun x : Nat × Value => [(18, .int .i64 x.1), (5, x.2)]) (fun x M' => x.1 ≤ ws.length ∧ Own N x.2 (natsV (list0 x.1)) M') (fun x => ws.length - x.1) (0, .slice none 0 0) (by kernel_rfl) (by simp (disch := omega)) ⟨by omega, Own.nil _⟩ ?_
  rintro ⟨i, v⟩ M' g ⟨hi, ho⟩
  simp only at hi ho
  by_cases hlt : i < ws.length
  · have hl0 := list0_length i
    simp (disch := omega) [-bin_shl, shlO]
    intro b' hb'
    simp (disch := omega)
    refine app_own ho ((Sub.refl _).put hb' _) (by simp (disch := omega); rfl) rfl rfl (by omega) (by simp (disch := omega)) (by simp (disch := omega); rw [natsV_length, hl0]; omega) ?_
    intro v' M'' N'' ho' hs'
    simp (disch := omega)
    refine Rnd.mk'' M'' (i + 1, v') hs' (by simp only; omega) (by (repeat (first | exact km | refine kp rfl ?_ | refine km' rfl ?_))) (by simp (disch := omega)) ⟨by simp only; omega, ?_⟩
    simp only
    rw [list0_succ, ← natsV_snoc]
    exact ho'
  · have hi' : i = ws.length := by omega
    subst hi'
    rw [list0_all] at ho
    have hsM := ho.sub
    have q1 := hsM _ _ k1
    have q3 := hsM _ _ k3
    rcases ho with ⟨_, h0, _⟩ | ⟨b5, c5, rfl, hb5, hc5, rfl⟩
    · have := congrArg List.length h0
      rw [natsV_length, lstB_length, List.length_nil] at this
      omega
    rw [natsV_length, lstB_length] at hc5
    have hne15 : b1 ≠ b5 := by rintro rfl; rw [k1] at hb5; cases hb5
    have hne35 : b3 ≠ b5 := by rintro rfl; rw [k3] at hb5; cases hb5
    have hmm : ws.length * ws.length ≤ 25 := Nat.mul_le_mul h15.2 h15.2
    obtain ⟨mm, hmmq⟩ : ∃ mm, mm = ws.length * ws.length := ⟨_, rfl⟩
    have emm : (ws.length : Int) * ws.length = (mm : Int) := by rw [hmmq]; push_cast; rfl
    rw [← hmmq] at h hmm
    have hll := lstB_length ws 0
    simp (disch := omega) [get_of q1, emm, natsV_length, hll]
    refine loop_to tab_ok [2, 7, 8, 35, 36, 37, 38, 39, 40, 41, 42, 43, 44, 45, 46, 47, 48, 49, 50, 51, 52, 53, 54] (fun k : Nat => [(35, .int .i64 k)]) (fun k M1 => k ≤ mm + 1 ∧ primTo ws k = false ∧ M1 = N.put b5 (.cells true (natsV (lstB ws k)) c5)) (fun k => mm + 1 - k) 0 (by kernel_rfl) (by simp (disch := omega)) ⟨by omega, rfl, rfl⟩ ?_
    rintro k M1 g1 ⟨hk, hno, rfl⟩
    by_cases hkl : k < mm + 1
    · simp (disch := omega)
      refine loop_to tab_ok [7, 8, 39, 40, 41, 42, 43, 44, 45, 46, 47, 48, 49, 50] (fun i : Nat => [(39, .int .i64 i)]) (fun i M2 => i ≤ ws.length ∧ M2 = N.put b5 (.cells true (natsV (mixB ws k i)) c5)) (fun i => ws.length - i) 0 (by kernel_rfl) (by simp (disch := omega)) ⟨by omega, by rw [mixB_zero]⟩ ?_
      rintro i M2 g2 ⟨hi2, rfl⟩
      have s5 : Sub N (N.put b5 (.cells true (natsV (mixB ws k i)) c5)) := (Sub.refl N).put hb5 _
      have hml := mixB_length ws k hi2
      by_cases hil : i < ws.length
      · have hg : (natsV (mixB ws k i))[i]? = some (.int .i64 (iterB ws k (2 ^ i) : Nat)) := by rw [natsV_get, mixB_get ws k hil]; rfl
        have hset := mixB_set ws k hil
        have hilt := iterB_lt hm hil k
        have hst : stepB ws (iterB ws k (2 ^ i)) = iterB ws (k + 1) (2 ^ i) := rfl
        simp (disch := omega) [hg]
        refine stepB_does _ ws _ b1 _ _ (hv3.sub s5) hm (s5 _ _ k1) hilt ?_
        rw [hst]
        simp (disch := omega) [natsV_setB, hset, natsV_length, hml]
        exact Rnd.mk' (i + 1) (by omega) (by (repeat (first | exact km | refine kp rfl ?_ | refine km' rfl ?_))) (by simp (disch := omega)) ⟨by omega, rfl⟩
      · have hi2' : i = ws.length := by omega
        subst hi2'
        rw [mixB_all] at s5 ⊢
        have hs := primTo_succ ws k
        rw [hno, Bool.false_or] at hs
        simp (disch := omega)
        refine areAllN_does _ _ (natsV (lstB ws (k + 1))) (isFull ws.length) (fun K => K b3 = some (.cells true [.int .i64 ((bitN ws.length : Int) - 1)] 1)) _ _ (Rd.new (by rw [natsV_length, lstB_length]) hc5) (s5 _ _ k3) ?_ ?_ rfl (by rw [natsV_length, lstB_length]; omega) ?_
        · intro K b' B q hb
          have : b3 ≠ b' := by rintro rfl; rw [hb] at q; cases q
          show (K.put b' B) b3 = _
          rw [put_ne _ _ this]; exact q
        · intro x hx K R' q hR
          obtain ⟨n, hn, rfl⟩ := List.mem_map.1 hx
          simp (disch := omega)
          refine does_fn tab_ok Try.func202 rfl (by kernel_rfl) (by kernel_rfl) Try.ntmps202 Try.results202 rfl ?_
          simp (disch := omega) [get_of q]
          exact ret_of hR
        · rw [all_full]
          cases hf : fullB ws (k + 1)
          · rw [hf] at hs
            simp (disch := omega)
            exact Rnd.mk' (k + 1) (by omega) (by (repeat (first | exact km | refine kp rfl ?_ | refine km' rfl ?_))) (by simp (disch := omega)) ⟨by omega, hs, rfl⟩
          · rw [primTo_yes hkl hf] at h
            simp (disch := omega)
            exact ret_sub (s3.trans s5) h
    · have hk' : k = mm + 1 := by omega
      rw [hk'] at hno
      rw [hno] at h
      simp (disch := omega)
      exact ret_sub (s3.trans ((Sub.refl N).put hb5 _)) h
theorem impl_IsPrimitive (v : Value) (ws : List (List UInt8)) (M : Mem) (R : Value → Mem → Prop) (hv : Rd M v (strs ws)) (hf : Fine ws) (hn : ws.length ≤ 1099511627776) (h : R (tup2 (.bool (primB ws)) (morC ws)) M) : Does Try.prog 62 [.agg #[v]] M R := by
  refine does_fn tab_ok Try.func62 rfl (by kernel_rfl) (by kernel_rfl) Try.ntmps62 Try.results62 rfl ?_
  obtain ⟨a, c, rfl, ha⟩ := hv.opened
  rw [strs_length] at hv ⊢
  simp (disch := omega)
  intro b1 hb1
  have hs1 : Sub M (M.put b1 (.cells true [.slice a ws.length c] 1)) := (Sub.refl M).put hb1 _
  have hv1 := hv.put hb1 (.cells true [.slice a ws.length c] 1)
  simp (disch := omega)
  refine morphismCode0_does _ ws _ _ hv1 hf hn ?_
  unfold primB morC at h
  unfold morC
  cases hm : isMor ws
  · rw [hm] at h
    simp (disch := omega)
    exact ret_sub hs1 h
  · rw [hm, Bool.true_and, if_pos rfl] at h
    simp (disch := omega)
    refine isPrimitive_does _ ws _ _ hv1 hm ?_
    simp (disch := omega)
    exact ret_sub hs1 h
theorem wrapU {x : Int} (h : 0 ≤ x ∧ x ≤ 1000) : IntKind.u64.wrap x = x := by
  simp [IntKind.wrap, IntKind.bits, IntKind.signed]; omega
def allTo (ws : List (List UInt8)) (k i : Nat) : Bool := (List.range i).all fun i => iterB ws k (2 ^ i) == 2 ^ ws.length - 1
theorem allTo_succ (ws : List (List UInt8)) (k i : Nat) : allTo ws k (i + 1) = (allTo ws k i && (iterB ws k (2 ^ i) == 2 ^ ws.length - 1)) := by simp [allTo, List.range_succ]
theorem allTo_all (ws : List (List UInt8)) (k : Nat) : allTo ws k ws.length = fullB ws k := rfl
theorem lstB_snoc (ws : List (List UInt8)) (k : Nat) {i : Nat} (h : i < ws.length) : (lstB ws k).take (i + 1) = (lstB ws k).take i ++ [iterB ws k (2 ^ i)] := by
  have hg := lstB_get ws k h
  rw [List.getElem?_eq_getElem (by rw [lstB_length]; exact h)] at hg
  injection hg with hg
  rw [take_snoc (lstB ws k) (by rw [lstB_length]; exact h), hg]
set_option maxHeartbeats 1000000 in
theorem spec_IsPrimitive (v : Value) (ws : List (List UInt8)) (M : Mem) (R : Value → Mem → Prop) (hv : Rd M v (strs ws)) (hf : Fine ws) (hn : ws.length ≤ 1099511627776) (h : R (tup2 (.bool (primB ws)) (morC ws)) M) : Does Try.prog 63 [.agg #[v]] M R := by
  refine does_fn tab_ok Try.func63 rfl (by kernel_rfl) (by kernel_rfl) Try.ntmps63 Try.results63 rfl ?_
  obtain ⟨a, c, rfl, ha⟩ := hv.opened
  rw [strs_length] at ha hv ⊢
  simp (disch := omega)
  intro b1 hb1
  have hs1 : Sub M (M.put b1 (.cells true [.slice a ws.length c] 1)) := (Sub.refl M).put hb1 _
  have hv1 := hv.put hb1 (.cells true [.slice a ws.length c] 1)
  have k1 : (M.put b1 (.cells true [.slice a ws.length c] 1)) b1 = some (.cells true [.slice a ws.length c] 1) := put_same _ _ _
  simp (disch := omega)
  generalize M.put b1 (.cells true [.slice a ws.length c] 1) = N at *
  refine l06Is_does _ ws _ _ hv1 hf hn ?_
  unfold primB morC at h
  cases hm : isMor ws
  · rw [hm] at h
    simp (disch := omega)
    exact ret_sub hs1 h
  · rw [hm, Bool.true_and, if_pos rfl] at h
    have h15 := mor_len hm
    have h32 := pow_le5 h15.2
    have hb32 : bitN ws.length ≤ 32 := h32
    have hb1' : 1 ≤ bitN ws.length := Nat.two_pow_pos _
    rcases ha with h0 | ⟨b, o, rfl, ha⟩
    · omega
    have hmm : ws.length * ws.length ≤ 25 := Nat.mul_le_mul h15.2 h15.2
    obtain ⟨mm, hmmq⟩ : ∃ mm, mm = ws.length * ws.length := ⟨_, rfl⟩
    have emm : (ws.length : Int) * ws.length = (mm : Int) := by rw [hmmq]; push_cast; rfl
    rw [← hmmq] at h hmm
    simp (disch := omega) [get_of k1]
    intro b20 hb20
    simp (disch := omega)
    refine loop_to tab_ok [5, 6, 21, 22, 23, 24, 25, 26, 27, 28, 29, 30, 31] (fun x : Nat × Value => [(6, .int .i64 x.1), (5, x.2)]) (fun x M' => x.1 ≤ ws.length ∧ Own N x.2 (natsV (list0 x.1)) M') (fun x => ws.length - x.1) (0, .slice (some ⟨b20, 0, none⟩) 0 0) (by kernel_rfl) (by simp (disch := omega)) ⟨by omega, Own.new hb20 rfl (Nat.le_refl 0)⟩ ?_
    rintro ⟨i, v⟩ M' g ⟨hi, ho⟩
    simp only at hi ho
    by_cases hlt : i < ws.length
    · have hl0 := list0_length i
      simp (disch := omega) [-bin_shl, wrapU, shlO]
      intro b' hb'
      simp (disch := omega)
      refine app_own ho ((Sub.refl _).put hb' _) (by simp (disch := omega); rfl) rfl rfl (by omega) (by simp (disch := omega)) (by simp (disch := omega); rw [natsV_length, hl0]; omega) ?_
      intro v' M'' N'' ho' hs'
      simp (disch := omega)
      refine Rnd.mk'' M'' (i + 1, v') hs' (by simp only; omega) (by (repeat (first | exact km | refine kp rfl ?_ | refine km' rfl ?_))) (by simp (disch := omega)) ⟨by simp only; omega, ?_⟩
      simp only
      rw [list0_succ, ← natsV_snoc]
      exact ho'
    · have hi' : i = ws.length := by omega
      subst hi'
      rw [list0_all] at ho
      simp (disch := omega)
      refine loop_to tab_ok [2, 3, 5, 7, 8, 9, 10, 11, 12, 13, 32, 33, 34, 35, 36, 37, 38, 39, 40, 41, 42, 43, 44, 45, 46, 47, 48, 49, 50, 51, 52, 53, 54, 55, 56, 57, 58, 59, 60, 61, 62, 63, 64, 65, 66, 67, 68, 69, 70, 71, 72, 73, 74, 75, 76, 77, 78, 79, 80, 81, 82, 83, 84, 85, 86, 87, 88, 89, 90, 91, 92, 93, 94, 95] (fun x : Nat × Value => [(7, .int .i64 x.1), (5, x.2)]) (fun x M1 => x.1 ≤ mm ∧ primTo ws x.1 = false ∧ Sub N M1 ∧ Rd M1 x.2 (natsV (lstB ws x.1))) (fun x => mm - x.1) (0, v) (by kernel_rfl) (by simp (disch := omega)) ⟨by simp, rfl, ho.sub, ho.rd⟩ ?_
      rintro ⟨k, vn⟩ M1 g1 ⟨hk, hno, sN, rn⟩
      simp only at hk hno rn
      by_cases hkl : k < mm
      · obtain ⟨an, cn, rfl, hag⟩ := rn.opened
        rw [natsV_length, lstB_length] at hag rn ⊢
        rcases hag with h0 | ⟨bn, on, rfl, hag⟩
        · omega
        simp (disch := omega) [emm]
        intro b39 hb39
        simp (disch := omega)
        refine loop_to tab_ok [8, 9, 10, 11, 12, 13, 40, 41, 42, 43, 44, 45, 46, 47, 48, 49, 50, 51, 52, 53, 54, 55, 56, 57, 58, 59, 60, 61, 62, 63, 64, 65, 66, 67, 68, 69, 70, 71, 72, 73, 74, 75, 76, 77, 78, 79, 80, 81, 82, 83, 84, 85, 86, 87, 88, 89, 90, 91, 92, 93] (fun x : Nat × Value => [(10, .int .i64 x.1), (8, x.2), (9, .bool (allTo ws (k + 1) x.1))]) (fun x M2 => x.1 ≤ ws.length ∧ Own M1 x.2 (natsV ((lstB ws (k + 1)).take x.1)) M2) (fun x => ws.length - x.1) (0, .slice (some ⟨b39, 0, none⟩) 0 0) (by kernel_rfl) (by simp (disch := omega) [allTo]) ⟨by omega, Own.new hb39 rfl (Nat.le_refl 0)⟩ ?_
        rintro ⟨i, v2⟩ M2 g2 ⟨hi2, o2⟩
        simp only at hi2 o2
        by_cases hil : i < ws.length
        · have hgn := hag i hil
          rw [natsV_get, lstB_get ws k hil] at hgn
          have hgn2 := get_keep hgn o2.sub
          have hilt := iterB_lt hm hil k
          have hst : stepB ws (iterB ws k (2 ^ i)) = iterB ws (k + 1) (2 ^ i) := rfl
          have hal := allTo_succ ws (k + 1) i
          have hls := lstB_snoc ws (k + 1) hil
          have hll : ((lstB ws (k + 1)).take i).length = i := by rw [List.length_take, lstB_length]; omega
          unfold stepB at hst
          obtain ⟨s, hsq⟩ : ∃ s, s = iterB ws k (2 ^ i) := ⟨_, rfl⟩
          rw [← hsq] at hgn2 hilt hst
          have l1 := o2.sub _ _ (sN _ _ k1)
          simp (disch := omega)
          refine loop_to tab_ok [11, 12, 13, 45, 46, 47, 48, 49, 50, 51, 52, 53, 54, 55, 56, 57, 58, 59, 60, 61, 62, 63, 64, 65, 66, 67, 68, 69, 70, 71, 72, 73, 74, 75, 76, 77, 78, 79, 80] (fun j : Nat => [(12, .int .i64 j), (11, .int .i64 (stepTo ws s j))]) (fun j M3 => M3 = M2 ∧ j ≤ ws.length) (fun j => ws.length - j) 0 (by kernel_rfl) (by simp (disch := omega) [stepTo_zero]) ⟨rfl, by omega⟩ ?_
          rintro j M3 g3 ⟨rfl, hj⟩
          by_cases hjl : j < ws.length
          · have hgw := ha j hjl
            rw [strs_get, List.getElem?_eq_getElem hjl] at hgw
            have hgw2 := get_keep hgw ((hs1.trans sN).trans o2.sub)
            have hsn := stepTo_succ ws s j
            have hgd : ws.getD j [] = ws[j] := by rw [List.getD_eq_getElem?_getD, List.getElem?_eq_getElem hjl]; rfl
            rw [hgd] at hsn
            have hlt2 := let_lt hm hjl
            rw [hgd] at hlt2
            have hstl := stepTo_lt hm s j hj
            have hwo := mor_ok hm (List.getElem_mem hjl)
            obtain ⟨w, hw⟩ : ∃ w, w = ws[j] := ⟨_, rfl⟩
            rw [← hw] at hgw2 hsn hlt2 hwo
            have hba := bitAt_le s j
            have hif : bitOf s j = 1 ↔ s / 2 ^ j % 2 = 1 := Iff.rfl
            have hb2 : bitOf s j < 2 := Nat.mod_lt _ (by omega)
            simp (disch := omega) [-bin_shl, -bin_shr, -bin_and, -bin_or, shrO, andO, wrapU, hgn2]
            by_cases hbit : bitOf s j = 1
            · have hbb : ((bitOf s j : Int) == 0) = false := by rw [hbit]; rfl
              rw [if_pos (hif.1 hbit)] at hsn
              generalize stepTo ws s j = acc at *
              simp (disch := omega) [hbb]
              refine loop_to tab_ok [11, 13, 59, 60, 61, 62, 63, 64, 65, 66, 67, 68, 69, 70, 71, 72, 73, 74, 75, 76, 77, 78, 79, 80] (fun q : Nat => [(13, .int .i64 q), (11, .int .i64 (bitW acc (w.take q)))]) (fun q M4 => M4 = M3 ∧ q ≤ w.length) (fun q => w.length - q) 0 (by kernel_rfl) (by simp (disch := omega) [bitW]) ⟨rfl, by omega⟩ ?_
              rintro q M4 g4 ⟨rfl, hq⟩
              have hlt3 := bitW_lt (m := ws.length) (w.take q) acc hstl fun u hu => hlt2 u (List.mem_of_mem_take hu)
              by_cases hql : q < w.length
              · have hx : w[q]? = some w[q] := List.getElem?_eq_getElem hql
                have hlq := isL_range (List.all_eq_true.1 (isWord_all hwo.2.1) _ (List.getElem_mem hql))
                have hl3 := hlt2 _ (List.getElem_mem hql)
                have hsn2 : bitW acc (w.take (q + 1)) = orN (bitW acc (w.take q)) (bitN (w[q].toNat - 97)) := by rw [take_snoc w hql, bitW_snoc]; rfl
                have hbn := bitN_lt hl3 h15.2
                have e97 : ((w[q].toNat : Int) - 97) = ((w[q].toNat - 97 : Nat) : Int) := by omega
                generalize w[q].toNat - 97 = kk at *
                simp (disch := omega) [-bin_shl, -bin_shr, -bin_and, -bin_or, shlO, orO, wrapU, get_of l1, hgw2, hx, e97]
                exact Rnd.mk' (q + 1) (by omega) (by (repeat (first | exact km | refine kp rfl ?_ | refine km' rfl ?_))) (by simp (disch := omega) [hsn2]) ⟨rfl, by omega⟩
              · have hq' : q = w.length := by omega
                subst hq'
                rw [List.take_length]
                simp (disch := omega) [get_of l1, hgw2]
                exact Rnd.mk' (j + 1) (by omega) (by (repeat (first | exact km | refine kp rfl ?_ | refine km' rfl ?_))) (by simp (disch := omega) [hsn]) ⟨rfl, by omega⟩
            · have hb0 : bitOf s j = 0 := by omega
              have hbb : ((bitOf s j : Int) == 0) = true := by rw [hb0]; rfl
              rw [if_neg (fun hh => hbit (hif.2 hh))] at hsn
              simp (disch := omega) [hbb]
              exact Rnd.mk' (j + 1) (by omega) (by (repeat (first | exact km | refine kp rfl ?_ | refine km' rfl ?_))) (by simp (disch := omega) [hsn]) ⟨rfl, by omega⟩
          · have hj' : j = ws.length := by omega
            subst hj'
            rw [hst]
            have hfe := full_eq (m := ws.length) (x := iterB ws (k + 1) (2 ^ i))
            have hit := iterB_lt hm hil (k + 1)
            rw [← hfe] at hal
            generalize iterB ws (k + 1) (2 ^ i) = y at *
            simp (disch := omega)
            intro b83 hb83
            simp (disch := omega)
            refine app_own o2 ((Sub.refl _).put hb83 _) (by simp (disch := omega); rfl) rfl rfl (by omega) (by simp (disch := omega)) (by simp (disch := omega); rw [natsV_length, hll]; omega) ?_
            intro v5 M5 N5 o5 s5
            cases hall : allTo ws (k + 1) i
            · rw [hall, Bool.false_and] at hal
              simp (disch := omega)
              refine Rnd.mk'' M5 (i + 1, v5) s5 (by simp only; omega) (by (repeat (first | exact km | refine kp rfl ?_ | refine km' rfl ?_))) (by simp (disch := omega) [hal]) ⟨by simp only; omega, ?_⟩
              simp only
              rw [hls, ← natsV_snoc]
              exact o5
            · rw [hall, Bool.true_and] at hal
              simp (disch := omega) [-bin_shl, shlO, wrapU]
              refine Rnd.mk'' M5 (i + 1, v5) s5 (by simp only; omega) (by (repeat (first | exact km | refine kp rfl ?_ | refine km' rfl ?_))) (by simp (disch := omega) [hal]) ⟨by simp only; omega, ?_⟩
              simp only
              rw [hls, ← natsV_snoc]
              exact o5
        · have hi2' : i = ws.length := by omega
          subst hi2'
          rw [List.take_of_length_le (by rw [lstB_length]; exact Nat.le_refl _)] at o2
          rw [allTo_all]
          have hs := primTo_succ ws k
          rw [hno, Bool.false_or] at hs
          cases hfu : fullB ws (k + 1)
          · rw [hfu] at hs
            simp (disch := omega)
            exact Rnd.mk' (k + 1, v2) (by simp only; omega) (by (repeat (first | exact km | refine kp rfl ?_ | refine km' rfl ?_))) (by simp (disch := omega)) ⟨by simp only; omega, hs, sN.trans o2.sub, o2.rd⟩
          · rw [primTo_yes hkl hfu] at h
            simp (disch := omega)
            exact ret_sub ((hs1.trans sN).trans o2.sub) h
      · have hk' : k = mm := by omega
        rw [hk'] at hno
        rw [hno] at h
        simp (disch := omega) [emm]
        exact ret_sub (hs1.trans sN) h
end Go.Proofs.Ytbefijbmgmbphaa

/- Contracts: sums of factors, of the program. -/
import Derived.Test.YtbefijbmgmbphaaC53
namespace Go.Proofs.Ytbefijbmgmbphaa
open Go
set_option linter.unusedSimpArgs false
set_option linter.unusedVariables false

theorem seg_le60 {w : List UInt8} (h : w.length ≤ 60) (i m : Nat) : (seg w i m).length ≤ 60 := by
  unfold seg
  rw [List.length_drop, List.length_take]; omega
theorem segsA_of {w : List UInt8} {m i : Nat} {u : List UInt8} (h : u ∈ segsA w m i) : ∃ j, u = seg w j m := by
  unfold segsA at h
  obtain ⟨j, _, rfl⟩ := List.mem_map.1 h
  exact ⟨j, rfl⟩
theorem metL_nil : ∀ n, metL [] n = []
  | 0 => rfl
  | n + 1 => by rw [metL_succ, metL_nil n]; rfl
theorem impl_SumsOf (w : List UInt8) (m : Int) (M : Mem) (R : Value → Mem → Prop) (hl : w.length ≤ 1099511627776) (h : Lst (sumsC w m) (ints (sumsR w m)) M R) : Does Try.prog 45 [str w, .int .i64 m] M R := by
  refine does_fn tab_ok Try.func45 rfl (by kernel_rfl) (by kernel_rfl) Try.ntmps45 Try.results45 rfl ?_
  simp (disch := omega)
  intro b1 hb1
  simp (disch := omega)
  intro b2 hb2
  have h2 := hb2
  rw [put_none] at h2
  simp (disch := omega)
  have hs2 : Sub M ((M.put b1 (.cells true [.int .i64 m] 1)).put b2 (.cells true [str w] 1)) := ((Sub.refl _).put hb1 _).putN hb2 _
  have hst : Stab (fun M' : Mem => M'.get? b1 0 = some (.int .i64 m)) := by
    intro N b B hG hb
    have : b1 ≠ b := by rintro rfl; unfold Mem.get? at hG; rw [hb] at hG; cases hG
    unfold Mem.get? at *
    rw [put_ne _ _ this]
    exact hG
  refine wordCode_does _ _ [w] (decide (0 ≤ m ∧ m ≤ 60)) (fun M' : Mem => M'.get? b1 0 = some (.int .i64 m)) _ _ (Rd.new rfl (Nat.le_refl 1)) (fine1 hl) (by simp) (by simp (disch := omega) [Ne.symm h2.1, h2.1]) hst ?_ ?_
  · intro N R' hG hR'
    simp (disch := omega)
    refine does_fn tab_ok Try.func117 rfl (by kernel_rfl) (by kernel_rfl) Try.ntmps117 Try.results117 rfl ?_
    simp (disch := omega) [hG]
    refine isLength_does m _ _ ?_
    simp (disch := omega)
    exact ret_of (by simpa using hR')
  · rw [codeOf1]
    unfold sumsC sumsR at h
    cases hw : isWord w
    · rw [hw] at h
      simp (disch := omega)
      exact ret_sub hs2 (h _ _ (Own.nil M))
    · rw [hw] at h
      by_cases hk : 0 ≤ m ∧ m ≤ 60
      · rw [if_pos rfl, if_pos rfl, if_pos hk, if_pos hk] at h
        rw [decide_eq_true hk]
        obtain ⟨m, rfl⟩ : ∃ j : Nat, m = j := ⟨m.toNat, by omega⟩
        rw [Int.toNat_natCast] at h
        have h60 := isWord_len hw
        have hall := isWord_all hw
        simp (disch := omega) [Ne.symm h2.1, h2.1]
        generalize (M.put b1 (.cells true [.int .i64 (m : Nat)] 1)).put b2 (.cells true [str w] 1) = N at *
        by_cases hmw : m ≤ w.length
        · refine factors_does w m _ _ h60 hmw ?_
          intro v1 M1 r1 s1
          have hLle := srt_le (segsA w m (w.length - m + 1))
          rw [segsA_length] at hLle
          have hmem : ∀ u, u ∈ srt (segsA w m (w.length - m + 1)) ↔ u ∈ segsA w m (w.length - m + 1) := fun u => mem_srt _ u
          rw [show w.length + 1 - m = w.length - m + 1 by omega] at h
          have hin : ∀ u ∈ segsA w m (w.length - m + 1), u.length ≤ 60 ∧ u.all isL = true := by
            intro u hu
            obtain ⟨j, rfl⟩ := segsA_of hu
            exact ⟨seg_le60 h60 j m, seg_all hall j m⟩
          have hb300 : ∀ u ∈ segsA w m (w.length - m + 1), numW u < 300 := fun u hu => by
            have := numW_le (hin u hu).2
            have := (hin u hu).1
            omega
          have hsame := met_same hb300 hmem
          rw [← hsame] at h
          generalize segsA w m (w.length - m + 1) = A at *
          generalize srt A = L at *
          obtain ⟨a1, c1, rfl, ha1⟩ := r1.opened
          rw [strs_length] at ha1 ⊢
          simp (disch := omega)
          refine loop_to tab_ok [7, 9, 21, 22, 23, 24, 25, 26, 27, 28, 29, 30] (fun x : Nat × Value => [(21, .int .i64 x.1), (7, x.2)]) (fun x M' => x.1 ≤ L.length ∧ Own M1 x.2 (ints ((L.take x.1).map fun u => (numW u : Int))) M') (fun x => L.length - x.1) (0, .slice none 0 0) (by kernel_rfl) (by simp (disch := omega)) ⟨by omega, Own.nil _⟩ ?_
          rintro ⟨i, v⟩ M' g ⟨hi, ho⟩
          simp only at hi ho
          by_cases hlt : i < L.length
          · rcases ha1 with h0 | ⟨b, o, rfl, ha1⟩
            · omega
            have hg := ha1 i hlt
            rw [strs_get, List.getElem?_eq_getElem hlt] at hg
            have hg := get_keep hg ho.sub
            have hu := hin _ ((hmem _).1 (List.getElem_mem hlt))
            have hu3 := hb300 _ ((hmem _).1 (List.getElem_mem hlt))
            have htk := take_snoc L hlt
            have hlen : ((L.take i).map fun u => (numW u : Int)).length = i := by rw [List.length_map, List.length_take]; omega
            generalize L[i] = u at *
            simp (disch := omega) [hg]
            refine sumOf_does u _ _ hu.1 hu.2 ?_
            intro M2 s2
            simp (disch := omega)
            intro b' hb'
            simp (disch := omega)
            refine app_own ho (s2.trans ((Sub.refl _).put hb' _)) (by simp (disch := omega); rfl) rfl rfl (by omega) (by simp (disch := omega)) (by simp (disch := omega); omega) ?_
            intro v' M'' N'' ho' hs'
            simp (disch := omega)
            refine Rnd.mk'' M'' (i + 1, v') hs' (by simp only; omega) (by (repeat (first | exact km | refine kp rfl ?_ | refine km' rfl ?_))) (by simp (disch := omega)) ⟨by simp only; omega, ?_⟩
            simp only
            rw [← List.map_take, htk, List.map_append]
            have e : ints ((L.take i).map fun u => (numW u : Int)) ++ [.int .i64 (numW u : Nat)] = ints (((L.take i).map fun u => (numW u : Int)) ++ [u].map fun u => (numW u : Int)) := by
              rw [← ints_append]; rfl
            rw [← e]
            exact ho'
          · have hi' : i = L.length := by omega
            subst hi'
            rw [List.take_length] at ho
            have hzl : (L.map fun u => (numW u : Int)).length = L.length := List.length_map _
            have hsr : srtI (L.map fun u => (numW u : Int)) = Lib.compact ((L.map fun u => (numW u : Int)).mergeSort fun x y => decide (x ≤ y)) := rfl
            rw [hsr] at h
            generalize (L.map fun u => (numW u : Int)) = zs at *
            simp (disch := omega)
            have hms : (zs.mergeSort fun x y => decide (x ≤ y)).length = zs.length := List.length_mergeSort _
            rcases ho with ⟨rfl, he, rfl⟩ | ⟨b, c, rfl, hb, hc, rfl⟩
            · have hz : zs = [] := by
                have := congrArg List.length he
                rw [ints_length] at this
                exact List.eq_nil_of_length_eq_zero this
              subst hz
              rw [List.mergeSort_nil] at h
              refine sortI0_does _ _ ?_
              simp (disch := omega)
              refine compactI_does _ [] _ _ _ (Own.nil _) (by simp) ?_
              intro v' M' o'
              simp (disch := omega)
              obtain ⟨M2, o2, z2⟩ := o'.base (hs2.trans s1)
              exact ret_sub z2 (h v' M2 o2)
            · rw [ints_length] at hc
              try rw [ints_length]
              refine sortI_does b c zs _ _ (put_same _ _ _) (by omega) ?_
              have oz : Own M1 (.slice (some ⟨b, 0, none⟩) (zs.mergeSort fun x y => decide (x ≤ y)).length c) (ints (zs.mergeSort fun x y => decide (x ≤ y))) (M1.put b (.cells true (ints (zs.mergeSort fun x y => decide (x ≤ y))) c)) := .inr ⟨b, c, by rw [ints_length], hb, by rw [ints_length, hms]; exact hc, rfl⟩
              rw [put_put]
              generalize (zs.mergeSort fun x y => decide (x ≤ y)) = ys at *
              generalize M1.put b (.cells true (ints ys) c) = N3 at *
              rw [← hms]
              simp (disch := omega)
              refine compactI_does _ ys _ _ _ oz (by omega) ?_
              intro v' M' o'
              simp (disch := omega)
              obtain ⟨M2, o2, z2⟩ := o'.base (hs2.trans s1)
              exact ret_sub z2 (h v' M2 o2)
        · refine factors0_does w m _ _ h60 (by omega) (by omega) ?_
          rw [show w.length + 1 - m = 0 by omega] at h
          have hnil : metL (segsA w m 0) 300 = [] := by
            have e : segsA w m 0 = [] := rfl
            rw [e]
            exact metL_nil 300
          rw [hnil] at h
          simp (disch := omega)
          refine loop_to tab_ok [7, 9, 21, 22, 23, 24, 25, 26, 27, 28, 29, 30] (fun x : Nat => [(21, .int .i64 0), (7, .slice none 0 0)]) (fun x M' => N = M') (fun x => 0) 0 (by kernel_rfl) (by simp (disch := omega)) rfl ?_
          rintro i M' g rfl
          simp (disch := omega)
          refine sortI0_does _ _ ?_
          simp (disch := omega)
          refine compactI_does _ [] _ _ _ (Own.nil _) (by simp) ?_
          intro v' M' o'
          simp (disch := omega)
          obtain ⟨M2, o2, z2⟩ := o'.base hs2
          exact ret_sub z2 (h v' M2 o2)
      · rw [if_pos rfl, if_pos rfl, if_neg hk, if_neg hk] at h
        rw [decide_eq_false hk]
        simp (disch := omega)
        exact ret_sub hs2 (h _ _ (Own.nil M))
end Go.Proofs.Ytbefijbmgmbphaa

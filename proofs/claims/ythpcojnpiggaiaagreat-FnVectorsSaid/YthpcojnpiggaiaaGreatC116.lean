/- Draws: vectors of letters. -/
import Derived.Test.YthpcojnpiggaiaaGreatCK
import Derived.Test.YthpcojnpiggaiaaGreatC66
namespace Go.Proofs.YthpcojnpiggaiaaGreat
open Go
set_option linter.unusedSimpArgs false
set_option linter.unusedVariables false

theorem drawWW_does (v : Value) (xs : List UInt8) (M : Mem) (R : Value → Mem → Prop) (hv : Rd M v (bytesV xs)) (hl : xs.length ≤ 4096) (h : ∀ v' zs M', Sub M M' → Rd M' v' (ints zs) → zs.length ≤ 6 → (∀ z ∈ zs, -1 ≤ z ∧ z ≤ 1099511627776) → R v' M') : Does Tryz.prog 10 [v] M R := by
  refine does_fn tab_ok Tryz.func10 rfl (by kernel_rfl) (by kernel_rfl) Tryz.ntmps10 Tryz.results10 rfl ?_
  simp (disch := omega)
  refine from_does v xs _ _ hv hl ?_
  intro s M1 hs0 s0 hsrc
  simp (disch := omega)
  refine nx_does s 9 _ _ hsrc ?_
  intro n M2 _ hn d2
  have hn := hn (by omega)
  simp (disch := omega)
  intro b1 hb1
  simp (disch := omega)
  refine pickN_does s b1 5 [1, 2, 2, 3, 5] _ _ _ d2.src hb1 rfl rfl (by simp) (by simp) ?_
  intro k hk M3 d3
  have hk : 1 ≤ k ∧ k ≤ 5 := by
    simp only [List.mem_cons, List.not_mem_nil, or_false] at hk
    omega
  have d3 := d2.trans d3
  simp (disch := omega)
  refine drawOf_does s n k _ _ d3.src (by omega) (by omega) ?_
  intro w M4 hwl hwi d4
  have d4 := d3.trans d4
  have hall : w.all isL = true := by
    rw [List.all_eq_true]
    intro u hu
    obtain ⟨i, rfl, hi⟩ := hwi u hu
    have hi5 : i < 5 := by omega
    have e : (ltr i).toNat = 97 + i := by unfold ltr; rw [UInt8.toNat_ofNat']; omega
    unfold isL
    rw [e, decide_eq_true (by omega), decide_eq_true (by omega)]; rfl
  simp (disch := omega)
  refine l01Count_does w _ _ (by omega) hall ?_
  intro vc M5 o5
  have hcl := counts_length w
  have hcb : ∀ z ∈ counts w, -1 ≤ z ∧ z ≤ 1099511627776 := by
    intro z hz
    unfold counts at hz
    simp only [List.mem_cons, List.not_mem_nil, or_false] at hz
    have hb := fun j => cnt_le w j
    rcases hz with rfl | rfl | rfl | rfl | rfl <;> (have := hb 0; have := hb 1; have := hb 2; have := hb 3; have := hb 4; omega)
  generalize counts w = zs at *
  simp (disch := omega)
  refine nx_does s 16 _ _ (d4.src.sub o5.sub) ?_
  intro x M6 _ hx d6
  obtain ⟨Mb6, M6', o6, s6, f6⟩ := own_draw o5 d4.src (Sub.refl _) d6
  have dB := d4.trans f6
  have sM6 := ((dB.keep M hs0 s0).trans o6.sub).trans s6
  by_cases h0 : x = 0
  · simp (disch := omega) [h0]
    intro b' hb'
    simp (disch := omega)
    refine app_own o6 (s6.trans ((Sub.refl _).put hb' _)) (by simp (disch := omega); rfl) rfl rfl (by omega) (by simp (disch := omega)) (by simp (disch := omega); omega) ?_
    intro v' M'' N'' o' s'
    rw [ints_snoc] at o'
    simp (disch := omega)
    exact ret_of (h v' _ N'' (((dB.keep M hs0 s0).trans o'.sub).trans s') (o'.rd.sub s') (by rw [List.length_append, List.length_singleton]; omega) (fun z hz => by
      rcases List.mem_append.1 hz with hz | hz
      · exact hcb z hz
      · rw [List.mem_singleton.1 hz]; omega))
  · by_cases h1 : x = 1
    · rcases o6 with ⟨_, e0, _⟩ | ⟨bz, cz, hve, hbz, hcz, rfl⟩
      · have := congrArg List.length e0
        rw [ints_length, hcl] at this
        simp at this
      rw [ints_length] at hve hcz
      subst hve
      simp (disch := omega) [h1]
      refine nx_does s 5 _ _ (dB.src.sub (((Sub.refl _).put hbz _).trans s6)) ?_
      intro jI M7 _ hj e7
      have hj := hj (by omega)
      obtain ⟨Mb7, M7', o7, s7, f7⟩ := own_draw (Own.new (xs := ints zs) hbz (ints_length zs) hcz) dB.src s6 e7
      have dB := dB.trans f7
      obtain ⟨j, rfl⟩ : ∃ j : Nat, jI = j := ⟨jI.toNat, by omega⟩
      have hjl : j < zs.length := by omega
      simp (disch := omega)
      intro b8 hb8
      simp (disch := omega)
      have dN7 := DrR.sub dB.src (o7.sub.trans s7)
      refine pickN_does s b8 4 [-1, 9, 8, 1099511627776] _ _ _ dN7.src hb8 rfl rfl (by simp) (by simp) ?_
      intro zv hzv M8 e8
      obtain ⟨Mb8, M8', o8, s8, f8⟩ := own_draw o7 dB.src s7 e8
      have dB := dB.trans f8
      rcases o8 with ⟨_, e0, _⟩ | ⟨bz', cz', hve, hbz8, hcz8, rfl⟩
      · have := congrArg List.length e0
        rw [ints_length, hcl] at this
        simp at this
      rw [ints_length] at hve hcz8
      injection hve with e1 e2 e3
      injection e1 with e1
      injection e1 with e1
      subst e1
      subst e3
      have k8 := s8 _ _ (put_same Mb8 bz (.cells true (ints zs) cz))
      have hsub8 : Sub Mb8 M8 := ((Sub.refl Mb8).put hbz8 _).trans s8
      have hset : (ints zs).set j (.int .i64 zv) = ints (zs.set j zv) := ints_set zs j zv
      have hgj : (ints zs).length = zs.length := ints_length zs
      have hzv : -1 ≤ zv ∧ zv ≤ 1099511627776 := by
        simp only [List.mem_cons, List.not_mem_nil, or_false] at hzv
        omega
      have o : Own Mb8 (.slice (some ⟨bz, 0, none⟩) zs.length cz) (ints (zs.set j zv)) (Mb8.put bz (.cells true (ints (zs.set j zv)) cz)) := Own.new hbz8 (by rw [ints_length, List.length_set]) hcz8
      have so : Sub (Mb8.put bz (.cells true (ints (zs.set j zv)) cz)) (M8.put bz (.cells true (ints (zs.set j zv)) cz)) := hsub8.both _ _
      simp (disch := omega) [k8, set_is, hset, hjl, hgj]
      exact ret_of (h _ (zs.set j zv) _ (((dB.keep M hs0 s0).trans o.sub).trans so) (o.rd.sub so) (by rw [List.length_set]; omega) (fun z hz => by
        rcases List.mem_or_eq_of_mem_set hz with hz | hz
        · exact hcb z hz
        · rw [hz]; exact hzv))
    · simp (disch := omega) [h0, h1]
      exact ret_of (h vc zs M6 sM6 (o6.rd.sub s6) (by omega) hcb)
end Go.Proofs.YthpcojnpiggaiaaGreat

/- Law: words with names, their periods, powers and closures. -/
import Derived.Test.YtbefijbmgmbphaaC44
namespace Go.Proofs.Ytbefijbmgmbphaa
open Go
set_option linter.unusedSimpArgs false
set_option linter.unusedVariables false

/-- A cut behind a region: what holds there is told in words of one's own. -/
theorem codeTo_cut {P : Program} {n : Nat} {c : Code} {Q : Exit → Env → Mem → Prop} {env : Env} {M : Mem} (Mid : Env → Mem → Prop) (h : CodeTo P n c (thenQ Mid fun _ _ _ => False) env M) (hm : ∀ env M, Mid env M → Q .normal env M) : CodeTo P n c Q env M :=
  h.mono fun e env M q => match e, q with
    | .normal, q => hm env M q
    | .exit _, q => q.elim
    | .goto _, q => q.elim
    | .ret, q => q.elim
    | .panic _, q => q.elim
    | .outgrown, q => q.elim
theorem names_len : names4.length = 4 := nr rfl
theorem names_eq : [str [102, 105, 98, 111, 110, 97, 99, 99, 105], str [116, 104, 117, 101], str [100, 111, 117, 98, 108, 105, 110, 103], str [116, 114, 105, 112, 108, 101]] = strs names4 := nr rfl
theorem Dr.at {b : Nat} {M M' : Mem} (h : Dr b M M') {i : Nat} (hi : i ≠ b) {B : Blk} (hB : M i = some B) : M' i = some B := by
  refine h.keep (fun j => if j = i then some B else none) (if_neg (Ne.symm hi)) ?_ i B (if_pos rfl)
  intro j C hj
  dsimp only at hj
  by_cases e : j = i
  · subst e; rw [if_pos rfl] at hj; injection hj with hj; subst hj; exact hB
  · rw [if_neg e] at hj; cases hj
theorem name_at {x : Int} (h : 0 ≤ x ∧ x < 4) : ∃ l ∈ names4, ∃ k : Nat, x = k ∧ (strs names4)[k]? = some (str l) := by
  obtain ⟨k, rfl⟩ : ∃ k : Nat, x = k := ⟨x.toNat, by omega⟩
  have : k = 0 ∨ k = 1 ∨ k = 2 ∨ k = 3 := by omega
  rcases this with rfl | rfl | rfl | rfl
  · exact ⟨_, by simp [names4], 0, rfl, rfl⟩
  · exact ⟨_, by simp [names4], 1, rfl, rfl⟩
  · exact ⟨_, by simp [names4], 2, rfl, rfl⟩
  · exact ⟨_, by simp [names4], 3, rfl, rfl⟩
theorem top_at {l : List UInt8} (hl : l ∈ names4) {j : Nat} (hj : j < 14) : namedC l ((j : Int) + 1) = 0 ∧ topOk (namedT l ((j : Int) + 1)) ((j : Int) + 1) = true := by
  have h := topAll_is
  unfold topAll at h
  have h2 := List.all_eq_true.1 (List.all_eq_true.1 h l hl) j (List.mem_range.2 hj)
  rw [Bool.and_eq_true, beq_iff_eq] at h2
  exact h2
def MidTop (M : Mem) (env : Env) (M' : Mem) : Prop := ∃ l ∈ names4, ∃ j : Nat, j < 14 ∧ env 4 = str l ∧ env 5 = .int .i64 ((j : Int) + 1) ∧ Sub M M'
theorem law_FnTop (v : Value) (xs : List UInt8) (M : Mem) (R : Value → Mem → Prop) (hv : Rd M v (bytesV xs)) (hl : xs.length ≤ 9223372036854775807) (h : ∀ M', Sub M M' → R (.bool true) M') : Does Try.prog 3 [v] M R := by
  refine does_fn tab_ok Try.func3 rfl (by kernel_rfl) (by kernel_rfl) Try.ntmps3 Try.results3 rfl ?_
  simp (disch := omega)
  refine big_does v xs _ _ hv hl ?_
  by_cases hb : 4096 < xs.length
  · rw [decide_eq_true hb]
    simp (disch := omega)
    exact ret_of (h _ (Sub.refl _))
  rw [decide_eq_false hb]
  simp (disch := omega)
  refine roll_does v xs 9985 _ _ hv (by omega) ?_
  intro b N hb0 hs hsrc
  simp (disch := omega)
  refine codeTo_cut (MidTop M) ?_ ?_
  · refine plays (lights [1, 5] (.alt 0 1 (.one 2 2 (lights [3] (.alt 4 1 (.one 6 2 (lights [7, 8, 9] .fin)) (.one 6 2 (lights [7] (.one 4 1 (lights [8, 9] .fin))))))) (.one 2 2 (.alt 0 1 (lights [3] (.alt 4 1 (.one 6 2 (lights [7, 8, 9] .fin)) (.one 6 2 (lights [7] (.one 4 1 (lights [8, 9] .fin)))))) (.one 6 2 (lights [7] (.one 0 1 (lights [3] (.one 4 1 (lights [8, 9] .fin)))))))))) tab_ok (by kernel_rfl) (by kernel_rfl) (by rfl) ?_
    simp (disch := omega) [vT_alt, names_eq, names_len]
    refine ⟨?_, ?_⟩
    · skip
      intro bn1 hbn1
      have sn1 := (Sub.refl N).put hbn1 (.cells true (strs names4) (strs names4).length)
      have kn1 : (N.put bn1 (.cells true (strs names4) (strs names4).length)) bn1 = some (.cells true (strs names4) (strs names4).length) := put_same _ _ _
      refine ⟨sn1, ?_⟩
      have nb1 : bn1 ≠ b := by rintro rfl; exact hsrc.told hbn1
      generalize N.put bn1 (.cells true (strs names4) (strs names4).length) = P1 at *
      try simp (disch := omega)
      refine below_does b 4 _ _ (hsrc.sub sn1) ?_
      intro x4 P2 _ hx4 d2
      have hx4 := hx4 (by omega)
      obtain ⟨l, hln, i4, rfl, hget⟩ := name_at hx4
      simp (disch := omega) [vT_alt]
      refine ⟨?_, ?_⟩
      · skip
        have gl3 := get_of (d2.at nb1 kn1) i4
        rw [hget] at gl3
        have hi4 := (List.getElem?_eq_some_iff.1 hget).1
        rw [strs_length] at hi4
        have hi44 : i4 < 4 := hi4
        simp (disch := omega) [gl3]
        try simp (disch := omega)
        refine below_does b 14 _ _ d2.src ?_
        intro x14 P4 _ hx14 d4
        have hx14 := hx14 (by omega)
        obtain ⟨j, rfl⟩ : ∃ j : Nat, x14 = j := ⟨x14.toNat, by omega⟩
        try simp (disch := omega)
        exact ⟨l, hln, j, by omega, by simp (disch := omega), by simp (disch := omega); try omega, (d4.keep M hb0 (d2.keep M hb0 (hs.trans sn1)))⟩
      · skip
        try simp (disch := omega)
        refine below_does b 14 _ _ d2.src ?_
        intro x14 P3 _ hx14 d3
        have hx14 := hx14 (by omega)
        obtain ⟨j, rfl⟩ : ∃ j : Nat, x14 = j := ⟨x14.toNat, by omega⟩
        have gl4 := get_of (d3.at nb1 (d2.at nb1 kn1)) i4
        rw [hget] at gl4
        have hi4 := (List.getElem?_eq_some_iff.1 hget).1
        rw [strs_length] at hi4
        have hi44 : i4 < 4 := hi4
        simp (disch := omega) [gl4]
        try simp (disch := omega)
        exact ⟨l, hln, j, by omega, by simp (disch := omega), by simp (disch := omega); try omega, (d3.keep M hb0 (d2.keep M hb0 (hs.trans sn1)))⟩
    · skip
      try simp (disch := omega)
      refine below_does b 4 _ _ hsrc ?_
      intro x4 P1 _ hx4 d1
      have hx4 := hx4 (by omega)
      obtain ⟨l, hln, i4, rfl, hget⟩ := name_at hx4
      simp (disch := omega) [vT_alt, names_eq, names_len]
      refine ⟨?_, ?_⟩
      · skip
        intro bn2 hbn2
        have sn2 := (Sub.refl P1).put hbn2 (.cells true (strs names4) (strs names4).length)
        have kn2 : (P1.put bn2 (.cells true (strs names4) (strs names4).length)) bn2 = some (.cells true (strs names4) (strs names4).length) := put_same _ _ _
        refine ⟨sn2, ?_⟩
        have nb2 : bn2 ≠ b := by rintro rfl; exact d1.src.told hbn2
        generalize P1.put bn2 (.cells true (strs names4) (strs names4).length) = P2 at *
        simp (disch := omega) [vT_alt]
        refine ⟨?_, ?_⟩
        · skip
          have gl3 := get_of kn2 i4
          rw [hget] at gl3
          have hi4 := (List.getElem?_eq_some_iff.1 hget).1
          rw [strs_length] at hi4
          have hi44 : i4 < 4 := hi4
          simp (disch := omega) [gl3]
          try simp (disch := omega)
          refine below_does b 14 _ _ (d1.src.sub sn2) ?_
          intro x14 P4 _ hx14 d4
          have hx14 := hx14 (by omega)
          obtain ⟨j, rfl⟩ : ∃ j : Nat, x14 = j := ⟨x14.toNat, by omega⟩
          try simp (disch := omega)
          exact ⟨l, hln, j, by omega, by simp (disch := omega), by simp (disch := omega); try omega, (d4.keep M hb0 ((d1.keep M hb0 hs).trans sn2))⟩
        · skip
          try simp (disch := omega)
          refine below_does b 14 _ _ (d1.src.sub sn2) ?_
          intro x14 P3 _ hx14 d3
          have hx14 := hx14 (by omega)
          obtain ⟨j, rfl⟩ : ∃ j : Nat, x14 = j := ⟨x14.toNat, by omega⟩
          have gl4 := get_of (d3.at nb2 kn2) i4
          rw [hget] at gl4
          have hi4 := (List.getElem?_eq_some_iff.1 hget).1
          rw [strs_length] at hi4
          have hi44 : i4 < 4 := hi4
          simp (disch := omega) [gl4]
          try simp (disch := omega)
          exact ⟨l, hln, j, by omega, by simp (disch := omega), by simp (disch := omega); try omega, (d3.keep M hb0 ((d1.keep M hb0 hs).trans sn2))⟩
      · skip
        try simp (disch := omega)
        refine below_does b 14 _ _ d1.src ?_
        intro x14 P2 _ hx14 d2
        have hx14 := hx14 (by omega)
        obtain ⟨j, rfl⟩ : ∃ j : Nat, x14 = j := ⟨x14.toNat, by omega⟩
        simp (disch := omega) [names_eq, names_len]
        intro bn3 hbn3
        have sn3 := (Sub.refl P2).put hbn3 (.cells true (strs names4) (strs names4).length)
        have kn3 : (P2.put bn3 (.cells true (strs names4) (strs names4).length)) bn3 = some (.cells true (strs names4) (strs names4).length) := put_same _ _ _
        refine ⟨sn3, ?_⟩
        have nb3 : bn3 ≠ b := by rintro rfl; exact d2.src.told hbn3
        generalize P2.put bn3 (.cells true (strs names4) (strs names4).length) = P3 at *
        have gl4 := get_of kn3 i4
        rw [hget] at gl4
        have hi4 := (List.getElem?_eq_some_iff.1 hget).1
        rw [strs_length] at hi4
        have hi44 : i4 < 4 := hi4
        simp (disch := omega) [gl4]
        try simp (disch := omega)
        exact ⟨l, hln, j, by omega, by simp (disch := omega), by simp (disch := omega); try omega, ((d2.keep M hb0 (d1.keep M hb0 hs)).trans sn3)⟩
  · rintro e N1 ⟨l, hln, j, hj, e4, e5, hs1⟩
    obtain ⟨hn0, htop⟩ := top_at hln hj
    have hll : l.length ≤ 9 := by
      unfold names4 at hln
      simp only [List.mem_cons, List.not_mem_nil, or_false] at hln
      rcases hln with rfl | rfl | rfl | rfl <;> decide
    obtain ⟨m, hm⟩ : ∃ m : Int, m = (j : Int) + 1 := ⟨_, rfl⟩
    rw [← hm] at hn0 htop e5
    have hm1 : 1 ≤ m ∧ m ≤ 14 := by omega
    clear hm
    simp (disch := omega) [e4, e5]
    refine impl_NamedWord l m _ _ (by omega) ?_
    simp (disch := omega) [e4, e5, tup2]
    refine spec_NamedWord l m _ _ (by omega) ?_
    rw [hn0]
    unfold topOk at htop
    simp only [Bool.and_eq_true, decide_eq_true_eq, beq_iff_eq] at htop
    generalize namedT l m = w at *
    obtain ⟨⟨⟨⟨⟨hwm, hw⟩, ⟨hwr, hpp⟩, hlast⟩, ⟨⟨hpc, hpw⟩, hhas⟩, hfil⟩, hk1, hk2⟩, ⟨⟨⟨hcc, hcw⟩, hcp⟩, hcl⟩, hct⟩ := htop
    have h60 := isWord_len hw
    have h60p := isWord_len hpw
    have h60c := isWord_len hcw
    simp (disch := omega) [e4, e5, tup2, hwm]
    refine impl_ReverseOf w _ _ (by omega) ?_
    intro N2 s2
    simp (disch := omega) [tup2, hw, wcode]
    refine impl_PeriodsOf w _ _ (by omega) ?_
    intro v3 N3 o3
    simp (disch := omega) [tup2, hw, wcode]
    refine impl_PeriodsOf w.reverse _ _ (by rw [List.length_reverse]; omega) ?_
    intro v4 N4 o4
    rw [hw, if_pos rfl] at o3
    rw [hwr, if_pos rfl, ← hpp] at o4
    have hlen : (perL w).length ≤ 60 := Nat.le_trans (perTo_len w _) h60
    have hs4 : Sub M N4 := ((hs1.trans s2).trans o3.sub).trans o4.sub
    have r3 := o3.rd.sub o4.sub
    have r4 := o4.rd
    simp (disch := omega) [tup2, hw, hwr, wcode]
    refine likeInts_does v3 v4 _ _ _ _ r3 r4 (by omega) (by omega) ?_
    rw [beq_self_eq_true]
    obtain ⟨a3, c3, rfl, ha3⟩ := r3.opened
    have hL1 : 1 ≤ (perL w).length := by
      rcases Nat.lt_or_ge 0 (perL w).length with hh | hh
      · exact hh
      · rw [List.getElem?_eq_none (by omega)] at hlast; cases hlast
    generalize perL w = L at *
    rw [ints_length] at ha3
    rcases ha3 with hz | ⟨b3, q3, rfl, ha3⟩
    · omega
    have hg3 := ha3 (L.length - 1) (by omega)
    rw [ints_get, hlast, Option.map_some] at hg3
    obtain ⟨z, hz⟩ : ∃ z, z = L.length - 1 := ⟨_, rfl⟩
    have hz' : (L.length : Int) - 1 = z := by omega
    rw [← hz] at hg3
    simp (disch := omega) [e4, e5, hz', hg3]
    refine impl_PowerOf w 3 _ _ (by omega) ?_
    intro N5 s5
    simp (disch := omega) [tup2]
    refine impl_PeriodsOf (pwrT w 3) _ _ (by omega) ?_
    intro v6 N6 o6
    rw [hpw, if_pos rfl] at o6
    have hlen6 : (perL (pwrT w 3)).length ≤ 60 := Nat.le_trans (perTo_len _ _) h60p
    simp (disch := omega) [tup2]
    refine impl_RootOf (pwrT w 3) _ _ (by omega) ?_
    intro N7 s7
    rw [hpc, hfil]
    generalize pwrT w 3 = p3 at *
    simp (disch := omega) [tup2, hpw, wcode, e4, e5]
    refine hasInt_does v6 _ m _ _ (o6.rd.sub s7) (by omega) ?_
    rw [hhas]
    simp (disch := omega) [e4, e5, hk1, hk2]
    refine impl_ClosureOf w _ _ (by omega) ?_
    intro N8 s8
    simp (disch := omega) [tup2, hcc]
    refine impl_IsPalindrome (closT w) _ _ (by omega) ?_
    intro N9 s9
    rw [hcw, hcp]
    generalize closT w = cl at *
    simp (disch := omega) [tup2, hcc, hcw, wcode, hct]
    exact ret_of (h _ (((((hs4.trans s5).trans o6.sub).trans s7).trans s8).trans s9))
end Go.Proofs.Ytbefijbmgmbphaa

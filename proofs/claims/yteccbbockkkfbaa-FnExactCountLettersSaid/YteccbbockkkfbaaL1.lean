/- Laws: the program's answers are the reference's. -/
import Derived.Test.YteccbbockkkfbaaC6
import Derived.Test.YteccbbockkkfbaaC7
namespace Go.Proofs.Yteccbbockkkfbaa
open Go
set_option linter.unusedSimpArgs false
set_option linter.unusedVariables false

theorem law_LettersOf (l : List UInt8) (M : Mem) (R : Value → Mem → Prop) (hl : l.length ≤ 140737488351232) (h : ∀ M', Sub M M' → R (.bool true) M') : Does Try.prog 6 [str l] M R := by
  refine does_fn tab_ok Try.func6 rfl (by kernel_rfl) (by kernel_rfl) Try.ntmps6 Try.results6 rfl ?_
  by_cases hz : (1048576 : Int) < l.length
  · simp (disch := omega) [hz]
    exact ret_of (h _ (Sub.refl _))
  · have hl : l.length ≤ 1099511627776 := by omega
    have hb : ((if isWord l then nums l else [])).length ≤ 1099511627776 := by split <;> simp [counts_length] <;> omega
    have e1 := spec_LettersOf l
    have e2 := impl_LettersOf l
    revert e1 e2 hb
    generalize wcode l = c
    generalize (if isWord l then nums l else []) = zs
    intro hb e1 e2
    simp (disch := omega) [hz]
    refine e1 _ _ hl ?_
    intro v1 M1 o1
    simp (disch := omega)
    refine e2 _ _ hl ?_
    intro v2 M2 o2
    simp (disch := omega)
    refine eqInt64S_does v2 v1 zs zs _ _ o2.rd (o1.rd.sub o2.sub) hb hb ?_
    simp (disch := omega)
    refine markInt64S_does v2 _ _ _ _ _ o2 (by simp (disch := omega); omega) (by omega) (by omega) ?_
    intro M3 o3
    simp (disch := omega)
    refine heldInt64S_does v2 _ _ _ _ o3.rd (by simp (disch := omega); omega) (by omega) (by omega) ?_
    simp (disch := omega)
    refine e2 _ _ hl ?_
    intro v4 M4 o4
    simp (disch := omega)
    refine eqInt64S_does v4 v1 zs zs _ _ o4.rd ((o1.rd.sub o3.sub).sub o4.sub) hb hb ?_
    simp (disch := omega)
    refine heldInt64S_does v2 _ _ _ _ (o3.rd.sub o4.sub) (by simp (disch := omega); omega) (by omega) (by omega) ?_
    simp (disch := omega)
    exact ret_of (h _ (((o1.sub.trans o3.sub)).trans o4.sub))
theorem law_CountLetters (l : List UInt8) (M : Mem) (R : Value → Mem → Prop) (hl : l.length ≤ 140737488351232) (h : ∀ M', Sub M M' → R (.bool true) M') : Does Try.prog 8 [str l] M R := by
  refine does_fn tab_ok Try.func8 rfl (by kernel_rfl) (by kernel_rfl) Try.ntmps8 Try.results8 rfl ?_
  by_cases hz : (1048576 : Int) < l.length
  · simp (disch := omega) [hz]
    exact ret_of (h _ (Sub.refl _))
  · have hl : l.length ≤ 1099511627776 := by omega
    have hb : ((if isWord l then counts l else [])).length ≤ 1099511627776 := by split <;> simp [counts_length] <;> omega
    have e1 := spec_CountLetters l
    have e2 := impl_CountLetters l
    revert e1 e2 hb
    generalize wcode l = c
    generalize (if isWord l then counts l else []) = zs
    intro hb e1 e2
    simp (disch := omega) [hz]
    refine e1 _ _ hl ?_
    intro v1 M1 o1
    simp (disch := omega)
    refine e2 _ _ hl ?_
    intro v2 M2 o2
    simp (disch := omega)
    refine eqInt64S_does v2 v1 zs zs _ _ o2.rd (o1.rd.sub o2.sub) hb hb ?_
    simp (disch := omega)
    refine markInt64S_does v2 _ _ _ _ _ o2 (by simp (disch := omega); omega) (by omega) (by omega) ?_
    intro M3 o3
    simp (disch := omega)
    refine heldInt64S_does v2 _ _ _ _ o3.rd (by simp (disch := omega); omega) (by omega) (by omega) ?_
    simp (disch := omega)
    refine e2 _ _ hl ?_
    intro v4 M4 o4
    simp (disch := omega)
    refine eqInt64S_does v4 v1 zs zs _ _ o4.rd ((o1.rd.sub o3.sub).sub o4.sub) hb hb ?_
    simp (disch := omega)
    refine heldInt64S_does v2 _ _ _ _ (o3.rd.sub o4.sub) (by simp (disch := omega); omega) (by omega) (by omega) ?_
    simp (disch := omega)
    exact ret_of (h _ (((o1.sub.trans o3.sub)).trans o4.sub))
theorem law_AreAlike (l k : List UInt8) (M : Mem) (R : Value → Mem → Prop) (hl : l.length ≤ 140737488351232) (hk : k.length ≤ 140737488351232) (h : ∀ M', Sub M M' → R (.bool true) M') : Does Try.prog 5 [str l, str k] M R := by
  refine does_fn tab_ok Try.func5 rfl (by kernel_rfl) (by kernel_rfl) Try.ntmps5 Try.results5 rfl ?_
  by_cases hz : (1048576 : Int) < l.length
  · simp (disch := omega) [hz]
    exact ret_of (h _ (Sub.refl _))
  · by_cases hz' : (1048576 : Int) < k.length
    · simp (disch := omega) [hz, hz']
      exact ret_of (h _ (Sub.refl _))
    · simp (disch := omega) [hz, hz']
      refine spec_AreAlike l k _ _ (by omega) (by omega) ?_
      simp (disch := omega) [tup2]
      refine impl_AreAlike l k _ _ (by omega) (by omega) ?_
      simp (disch := omega) [tup2]
      exact ret_of (h _ (Sub.refl _))
theorem law_CountAlike (l : List UInt8) (M : Mem) (R : Value → Mem → Prop) (hl : l.length ≤ 140737488351232) (h : ∀ M', Sub M M' → R (.bool true) M') : Does Try.prog 7 [str l] M R := by
  refine does_fn tab_ok Try.func7 rfl (by kernel_rfl) (by kernel_rfl) Try.ntmps7 Try.results7 rfl ?_
  by_cases hz : (1048576 : Int) < l.length
  · simp (disch := omega) [hz]
    exact ret_of (h _ (Sub.refl _))
  · simp (disch := omega) [hz]
    refine spec_CountAlike l _ _ (by omega) ?_
    simp (disch := omega) [tup2]
    refine impl_CountAlike l _ _ (by omega) ?_
    simp (disch := omega) [tup2]
    exact ret_of (h _ (Sub.refl _))
theorem law_NamedWord (l : List UInt8) (m : Int) (M : Mem) (R : Value → Mem → Prop) (hl : l.length ≤ 140737488351232) (hm : -9223372036854775808 ≤ m ∧ m ≤ 9223372036854775807) (h : ∀ M', Sub M M' → R (.bool true) M') : Does Try.prog 3 [str l, .int .i64 m] M R := by
  refine does_fn tab_ok Try.func3 rfl (by kernel_rfl) (by kernel_rfl) Try.ntmps3 Try.results3 rfl ?_
  by_cases hz : (1048576 : Int) < l.length
  · simp (disch := omega) [hz]
    exact ret_of (h _ (Sub.refl _))
  · simp (disch := omega) [hz]
    refine spec_NamedWord l m _ _ (by omega) ?_
    simp (disch := omega) [tup2]
    refine impl_NamedWord l m _ _ (by omega) ?_
    simp (disch := omega) [tup2]
    exact ret_of (h _ (Sub.refl _))
theorem law_NewDesk (M : Mem) (R : Value → Mem → Prop) (h : ∀ M', Sub M M' → R (.bool true) M') : Does Try.prog 4 [] M R := by
  refine does_fn tab_ok Try.func4 rfl (by kernel_rfl) (by kernel_rfl) Try.ntmps4 Try.results4 rfl ?_
  simp (disch := omega)
  refine spec_NewDesk_does _ _ ?_
  intro v1 M1 o1
  obtain ⟨a1, c1, rfl, ha1⟩ := o1.rd.opened
  unfold deskV
  simp (disch := omega)
  intro b1 hb1
  simp (disch := omega)
  refine impl_NewDesk_does _ _ ?_
  intro v2 M2 o2
  obtain ⟨a2, c2, rfl, ha2⟩ := o2.rd.opened
  unfold deskV
  simp (disch := omega)
  intro b2 hb2
  have k1 := o2.sub _ _ (put_same _ _ _)
  have ne1 : b1 ≠ b2 := by rintro rfl; rw [k1] at hb2; cases hb2
  have hl : ([[97, 98], [97]] : List (List UInt8)).length ≤ 1099511627776 := by decide
  simp (disch := omega) [ne1, Ne.symm ne1, sub_of k1]
  refine eqDesk_does _ _ _ _ _ _ _ _ _ _ (o2.rd.put hb2 _) (((o1.rd.put hb1 _).sub o2.sub).put hb2 _) hl hl ?_
  simp (disch := omega)
  refine markDesk_does _ _ _ (strs [[97, 98], [97]]) _ _ _ _ (o2.push hb2 _) (by decide) (by omega) (by omega) ?_
  intro N M3 hs3 o3
  have k2 := o3.sub _ _ (hs3 _ _ (put_same _ _ _))
  simp (disch := omega) [sub_of k2]
  refine heldDesk_does _ _ _ _ _ _ _ o3.rd (by decide) (by omega) (by omega) ?_
  simp (disch := omega)
  refine impl_NewDesk_does _ _ ?_
  intro v5 M5 o5
  obtain ⟨a5, c5, rfl, ha5⟩ := o5.rd.opened
  unfold deskV
  simp (disch := omega)
  intro b6 hb6
  have k4 := o5.sub _ _ k2
  have k3 := o5.sub _ _ (o3.sub _ _ (hs3 _ _ ((put_ne _ _ ne1).trans (put_same _ _ _))))
  have ne2 : b1 ≠ b6 := by rintro rfl; rw [k3] at hb6; cases hb6
  have ne3 : b2 ≠ b6 := by rintro rfl; rw [k4] at hb6; cases hb6
  simp (disch := omega) [ne2, Ne.symm ne2, ne3, Ne.symm ne3, sub_of k3, sub_of k4]
  have s1 := (o1.rd.put hb1 (.cells true [str [97, 98, 97, 97, 98], str [65, 65], .slice a1 2 c1] 3)).sub ((Sub.refl _).put (none_of o2.sub hb2) (.cells true [str [97, 98, 97, 97, 98], str [65, 65], .slice a2 2 c2] 3))
  have s2 := ((s1.sub hs3).sub o3.sub).sub o5.sub
  refine eqDesk_does _ _ _ _ _ _ _ _ _ _ (o5.rd.put hb6 _) (s2.put hb6 _) hl hl ?_
  simp (disch := omega) [ne3, sub_of k4]
  refine heldDesk_does _ _ _ _ _ _ _ ((o3.rd.sub o5.sub).put hb6 _) (by decide) (by omega) (by omega) ?_
  simp (disch := omega)
  refine ret_of (h _ ?_)
  have q1 : Sub M (M1.put b1 (.cells true [str [97, 98, 97, 97, 98], str [65, 65], .slice a1 2 c1] 3)) := o1.sub.putN hb1 _
  have q2 := (q1.trans ((Sub.refl _).put (none_of o2.sub hb2) (.cells true [str [97, 98, 97, 97, 98], str [65, 65], .slice a2 2 c2] 3))).trans hs3
  exact ((q2.trans o3.sub).trans o5.sub).putN hb6 _
end Go.Proofs.Yteccbbockkkfbaa

/- Contracts: marks in an argument, behind a result that lies beside it. -/
import Derived.Test.YticejlplbibegaaGreatDoorCB
namespace Go.Proofs.YticejlplbibegaaGreatDoor
open Go
set_option linter.unusedSimpArgs false
set_option linter.unusedVariables false

/-- What the marks in an argument do to the memory: nothing, or another content of its block. -/
def Turn (N N3 : Mem) (f : Mem → Mem) : Prop := (∀ K, Sub N3 K → Sub N (f K)) ∧ (f = id ∨ ∃ b B B0, N3 b = some B0 ∧ f = fun K => K.put b B)
theorem Own.turn {N N3 A A' : Mem} {f : Mem → Mem} {v : Value} {xs : List Value} (t : Turn N N3 f) (hs : Sub N3 A) (o : Own A v xs A') : Own (f A) v xs (f A') := by
  rcases t.2 with rfl | ⟨b, B, B0, hb, rfl⟩
  · exact o
  · exact o.other (hs _ _ hb) B
theorem RowsOf.other {M N : Mem} {rs : List Value} {rows : List (List Int)} (h : RowsOf M rs rows N) {b : Nat} {B0 : Blk} (hb : M b = some B0) (B : Blk) : RowsOf (M.put b B) rs rows (N.put b B) := by
  induction h with
  | nil => exact .nil
  | @more rs rows N b' c r cc x h hb' hc ih =>
    have hN := h.sub _ _ hb
    have hne : b' ≠ b := by rintro rfl; rw [hb'] at hN; cases hN
    rw [put_swap _ hne]
    exact ih.more cc x (by rw [put_none]; exact ⟨hne, hb'⟩) hc
theorem RowsOf.turn {N N3 A A' : Mem} {f : Mem → Mem} {rs : List Value} {rows : List (List Int)} (t : Turn N N3 f) (hs : Sub N3 A) (o : RowsOf A rs rows A') : RowsOf (f A) rs rows (f A') := by
  rcases t.2 with rfl | ⟨b, B, B0, hb, rfl⟩
  · exact o
  · exact o.other (hs _ _ hb) B
theorem Turn.keep {N N3 K : Mem} {f : Mem → Mem} (t : Turn N N3 f) (hs : Sub N3 K) : Sub N (f K) := t.1 K hs
/-- The block of an argument, in whatever memory behind it. -/
theorem Own.on {N N3 K : Mem} {v : Value} {xs : List Value} (o : Own N v xs N3) (hs : Sub N3 K) : ∃ K0, Own K0 v xs K ∧ ∀ ys M2, ys.length = xs.length → Own K0 v ys M2 → ∃ f, Turn N N3 f ∧ M2 = f K := by
  rcases o with ⟨rfl, rfl, rfl⟩ | ⟨b, c, rfl, hb, hc, rfl⟩
  · refine ⟨K, Own.nil K, fun ys M2 hl o2 => ⟨id, ⟨fun K h => h, .inl rfl⟩, ?_⟩⟩
    rcases o2 with ⟨_, _, rfl⟩ | ⟨b', c', e, _, _, _⟩
    · rfl
    · cases e
  · have hK := hs _ _ (put_same _ _ _)
    refine ⟨K.del b, .inr ⟨b, c, rfl, by simp [Mem.del], hc, ?_⟩, fun ys M2 hl o2 => ?_⟩
    · funext j
      simp only [Mem.put, Mem.del]
      split
      · rename_i e; rw [e, hK]
      · rfl
    · rcases o2 with ⟨e, _, _⟩ | ⟨b', c', e, _, _, rfl⟩
      · cases e
      · injection e with q1 q2 q3
        injection q1 with q1
        injection q1 with q1
        subst q1; subst q3
        refine ⟨fun K => K.put b (.cells true ys c), ⟨fun K hK => ?_, .inr ⟨b, _, _, put_same _ _ _, rfl⟩⟩, ?_⟩
        · intro i Bi hi
          have : i ≠ b := by rintro rfl; rw [hb] at hi; cases hi
          show (K.put b (.cells true ys c)) i = some Bi
          rw [put_ne _ _ this]
          exact hK _ _ (by rw [put_ne _ _ this]; exact hi)
        · funext j
          simp only [Mem.put, Mem.del]
          split <;> rfl
theorem RowsOf.push {M N : Mem} {rs : List Value} {rows : List (List Int)} (h : RowsOf M rs rows N) {b : Nat} (hb : N b = none) (B : Blk) : RowsOf (M.put b B) rs rows (N.put b B) := by
  induction h with
  | nil => exact .nil
  | @more rs rows N b' c r cc x h hb' hc ih =>
    rw [put_none] at hb
    rw [put_swap _ (Ne.symm hb.1)]
    exact (ih hb.2).more cc x (by rw [put_none]; exact ⟨Ne.symm hb.1, hb'⟩) hc
/-- A result under another new list. -/
theorem Own.over {A B2 N6 : Mem} {v6 g : Value} {xs ys : List Value} (o6 : Own B2 v6 xs N6) (o : Own A g ys B2) : ∃ A', Own A' g ys N6 ∧ Sub A A' := by
  rcases o6 with ⟨_, _, rfl⟩ | ⟨b, c, _, hb, _, rfl⟩
  · exact ⟨A, o, Sub.refl A⟩
  · exact ⟨_, o.push hb _, (Sub.refl A).put (none_of o.sub hb) _⟩
theorem Own.overS {A A2 B2 N6 : Mem} {v6 g : Value} {xs rs : List Value} {rows : List (List Int)} (o6 : Own B2 v6 xs N6) (r : RowsOf A rs rows A2) (o : Own A2 g rs B2) : ∃ A' A2', RowsOf A' rs rows A2' ∧ Own A2' g rs N6 ∧ Sub A A' := by
  rcases o6 with ⟨_, _, rfl⟩ | ⟨b, c, _, hb, _, rfl⟩
  · exact ⟨A, A2, r, o, Sub.refl A⟩
  · exact ⟨_, _, r.push (none_of o.sub hb) _, o.push hb _, (Sub.refl A).put (none_of (r.sub.trans o.sub) hb) _⟩
end Go.Proofs.YticejlplbibegaaGreatDoor

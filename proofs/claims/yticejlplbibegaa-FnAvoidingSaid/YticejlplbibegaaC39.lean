/- Contracts: slices.DeleteFunc of strings. -/
import Derived.Test.YticejlplbibegaaC21
import Derived.Test.YticejlplbibegaaC17
namespace Go.Proofs.Yticejlplbibegaa
open Go
set_option linter.unusedSimpArgs false
set_option linter.unusedVariables false

/-- Less is told: of fewer blocks, or of fewer cells. -/
def Less (A B : Mem) : Prop := ∀ b X, A b = some X → ∃ Y, B b = some Y ∧ (X = Y ∨ ∃ own xs ys tot, X = .cells own xs tot ∧ Y = .cells own (xs ++ ys) tot)
theorem Less.rep {A B : Mem} {w : World} (h : Less A B) (hw : Rep B w) : Rep A w := by
  intro b X hX
  obtain ⟨Y, hY, e⟩ := h b X hX
  have hold := hw b Y hY
  rcases e with rfl | ⟨own, xs, ys, tot, rfl, rfl⟩
  · exact hold
  · obtain ⟨c, e, fr, h1, h2, ⟨zs, h3⟩, h4⟩ := hold
    exact ⟨c, e, fr, h1, h2, ⟨ys ++ zs, by rw [h3, List.append_assoc]⟩, h4⟩
theorem Less.owns {A B : Mem} {b : Nat} (h : Less A B) (ho : owns A b) : owns B b := by
  obtain ⟨X, hX, o⟩ := ho
  obtain ⟨Y, hY, e⟩ := h b X hX
  rcases e with rfl | ⟨own, xs, ys, tot, rfl, rfl⟩
  · exact ⟨_, hY, o⟩
  · exact ⟨_, hY, o⟩
theorem Sub.less {A B : Mem} (h : Sub A B) : Less A B := fun b X hX => ⟨X, h b X hX, .inl rfl⟩
theorem Does.less {P : Program} {f : FuncId} {args : List Value} {M : Mem} {R R' : Value → Mem → Prop} (h : Does P f args M R') (hr : ∀ v M', R' v M' → ∃ M'', Less M'' M' ∧ R v M'') : Does P f args M R :=
  ⟨h.1, fun w hw => (h.2 w hw).mono fun _ _ ⟨v, M', h1, h2, h3, h4⟩ => by
    obtain ⟨M'', hl, hR⟩ := hr v M' h4
    exact ⟨v, M'', h1, hl.rep h2, ⟨h3.os, h3.tape, h3.output, h3.size, h3.block, fun b hb => h3.own b (hl.owns hb)⟩, hR⟩⟩
/-- A function value that tells p of strings; memory may grow. -/
def TellsS (P : Program) (fv : Value) (ss : List (List UInt8)) (p : List UInt8 → Bool) : Prop :=
  ∀ u ∈ ss, ∀ M R, (∀ M', Sub M M' → R (.bool (p u)) M') → vCallV P fv [str u] R M
end Go.Proofs.Yticejlplbibegaa

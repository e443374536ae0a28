/- Bridges from the kit's contracts, which speak of worlds. -/
import Derived.Test.YthpcojnpiggaiaaGreatEB
import Derived.Test.YthpcojnpiggaiaaGreatSh
namespace Go.Proofs.YthpcojnpiggaiaaGreat
open Go Go.RowKit
set_option linter.unusedSimpArgs false
set_option linter.unusedVariables false

/-- What is told of the memory stands where all older blocks stand. -/
theorem rep_below {M : Mem} {w w' : World} (h : Rep M w) (hb : Below w.heap.size w w') : Rep M w' := by
  intro b B hB
  have hold := h b B hB
  have hlt : b < w.heap.size := by
    rcases Nat.lt_or_ge b w.heap.size with hlt | hge
    · exact hlt
    · cases B with
      | cells own xs tot => obtain ⟨c, e, fr, q, _⟩ := hold; rw [Array.getElem?_eq_none hge] at q; cases q
      | obj o => obtain ⟨q, _⟩ := hold; rw [Array.getElem?_eq_none hge] at q; cases q
  exact Blk.holds_of (hb.block b hlt) hold
theorem told_lt {M : Mem} {w : World} (h : Rep M w) {b : Nat} {B : Blk} (hB : M b = some B) : b < w.heap.size := by
  have hold := h b B hB
  rcases Nat.lt_or_ge b w.heap.size with hlt | hge
  · exact hlt
  · cases B with
    | cells own xs tot => obtain ⟨c, e, fr, q, _⟩ := hold; rw [Array.getElem?_eq_none hge] at q; cases q
    | obj o => obtain ⟨q, _⟩ := hold; rw [Array.getElem?_eq_none hge] at q; cases q
/-- A call by a contract of the kit that keeps all older blocks. -/
theorem does_below {P : Program} {f : FuncId} {args : List Value} {M : Mem} {R : Value → Mem → Prop} (v : Value) (hb : HasBody P f) (h : ∀ w, Rep M w → Calls P f args.toArray w fun e w' => e = .returned v ∧ Below w.heap.size w w') (hR : R v M) : Does P f args M R :=
  ⟨hb, fun w hw => (h w hw).mono fun e w' ⟨he, hbl⟩ => ⟨v, M, he, rep_below hw hbl, ⟨hbl.os, hbl.tape, hbl.output, hbl.size, fun b hb _ => hbl.block b hb, fun b hb => .inl hb⟩, hR⟩⟩
theorem get_told {M : Mem} {b i : Nat} {v : Value} (h : M.get? b i = some v) : ∃ B, M b = some B := by
  unfold Mem.get? at h
  cases hM : M b with
  | none => rw [hM] at h; cases h
  | some B => exact ⟨B, rfl⟩
end Go.Proofs.YthpcojnpiggaiaaGreat

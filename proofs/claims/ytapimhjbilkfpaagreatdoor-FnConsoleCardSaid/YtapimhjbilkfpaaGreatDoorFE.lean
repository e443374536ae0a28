/- What the card asks of the program's text, in parts: the whole in one go is more than the checker's memory. -/
import Derived.JoinedOf
import Derived.SevenTiedAt
import Derived.ProofKit
import Derived.WalkKit
import Derived.Test.YtapimhjbilkfpaaGreatDoorRows
import Derived.Test.YtapimhjbilkfpaaGreatDoorCards
namespace Go.Proofs.YtapimhjbilkfpaaGreatDoor
open Go
set_option maxRecDepth 100000
theorem conFacts0 : (Rows.fnConsoleRow.wf (OpenSpec.ofChange Rows.fnConsoleSpec) && laidOutB Tryz.prog && mapsRowed Tryz.prog && Tryz.f7.params.all (Tryz.prog.readableRec ·) && namedTie Tryz.prog Rows.fnConsoleRow.named Rows.fnConsoleSpec.vars && (Rows.fnConsoleRow.stops == []) && (Tryz.prog.stops == []) && (Rows.fnConsoleRow.knobs == []) && (Tryz.prog.stopKnobs == [])) = true := by kernel_rfl
theorem conFacts1 : (Rows.fnConsoleRow.inPlace == Tryz.prog.inPlace 7) = true := by kernel_rfl
theorem conFacts2 : (Rows.fnConsoleRow.unfollowed == Tryz.prog.unfollowed 7) = true := by kernel_rfl
theorem conFacts3 : (Rows.fnConsoleRow.recurses == Tryz.prog.recurses 7) = true := by
  have h : Tryz.prog.unfollowed 7 = true := (eq_of_beq conFacts2).symm
  have h2 : Tryz.prog.recurses 7 = true := by unfold Program.recurses; rw [h]; rfl
  rw [h2]; rfl
theorem conFacts4 : (Rows.fnConsoleRow.named == Tryz.prog.varsNamed 7) = true := by kernel_rfl
theorem conFacts : joinedFacts Tryz.prog 7 Tryz.f7 Rows.fnConsoleSpec Rows.fnConsoleRow = true := by
  unfold joinedFacts
  rw [conFacts0, conFacts1, conFacts2, conFacts3, conFacts4]
  kernel_rfl
theorem conGoes0 : Tryz.prog.funcs.any Func.goes = false := by kernel_rfl
theorem conGoes1 : Tryz.prog.goes 7 = false := by
  unfold Program.goes
  rw [conGoes0, Bool.and_false, Bool.or_false, List.any_eq_false]
  intro g _ hg
  cases hf : Tryz.prog.funcs[g]? with
  | none => rw [hf] at hg; cases hg
  | some fn =>
    rw [hf] at hg
    have h := Array.any_eq_false.1 conGoes0
    obtain ⟨hlt, he⟩ := Array.getElem?_eq_some_iff.1 hf
    exact h g hlt (by rw [he]; exact hg)
theorem conNamed : Tryz.prog.funcNamed "loop.example/g01371/laws.FnConsole" = some 7 := by kernel_rfl
theorem goesBy_of {c : OpenClaim} {P : Program} {f : FuncId} (hs : c.start = .entering) (hn : P.funcNamed c.func = some f) (hg : P.goes f = false) : false = c.goesBy P := by
  unfold OpenClaim.goesBy Program.goesAt Program.goesFrom
  rw [hs, hn, Option.any_some, hg]
  rfl
theorem conGoes : false = Rows.fnConsoleRow.goesBy Tryz.prog := goesBy_of (f := 7) rfl conNamed conGoes1
theorem conLooks : true = Tryz.prog.looks [] := by kernel_rfl
end Go.Proofs.YtapimhjbilkfpaaGreatDoor

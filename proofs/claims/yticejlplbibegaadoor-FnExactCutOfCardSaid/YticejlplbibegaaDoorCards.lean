/-
  DERIVED. GIVEN WITH THE SEED: THE CARDS: each row of YticejlplbibegaaDoorRows.lean that lists a variable, with what it lists TIED to the program's text (the seventh form; the later family's looks); each row that meets fmt, with fmt's text TOLD by the authors' own Lean function (tested against real Go, not proved from fmt's source: count such statements apart). THE CARD IS WHAT COUNTS. Prove the row's statement (the work); the ties are given (YticejlplbibegaaDoorTie.lean); close each card by the builder's one call (the guide's Derived/Test/ToyasCard.lean, 'card_holds'). Laid BY PROGRAM, IN A SANDBOX (cutbox-door.mjs). By AI agents, Wed Nov 11 2026. No macro, syntax, notation, axiom, sorry.
-/
import Derived.Test.YticejlplbibegaaDoorRows
import GoSem.ClaimSeven
namespace Go.Proofs.YticejlplbibegaaDoor
namespace Rows

/-- THE TIED CARD OF 'laws.FnExactParseMorphism'. -/
def fnExactParseMorphismCard : Claim7 := { stood := { row := fnExactParseMorphismRow, standIns := [], harness := (true, "67e07f89ecd71cca4019efe4967e6da5367be539232e274197c8a88e4379b1b4"), looks := false }, kinds := [], alts := [], laidByText := true, laidKinds := [.data, .pinned], laidTests := true, laidLooks := .later }
def FnExactParseMorphismCardSaid : Prop := Claim7.holds Tryd.pinned (.plain (OpenSpec.ofChange fnExactParseMorphismSpec)) fnExactParseMorphismCard

/-- THE TIED CARD OF 'laws.FnExactSlopeOfWord'. -/
def fnExactSlopeOfWordCard : Claim7 := { stood := { row := fnExactSlopeOfWordRow, standIns := [], harness := (true, "67e07f89ecd71cca4019efe4967e6da5367be539232e274197c8a88e4379b1b4"), looks := false }, kinds := [], alts := [], laidByText := true, laidKinds := [.data, .pinned], laidTests := true, laidLooks := .later }
def FnExactSlopeOfWordCardSaid : Prop := Claim7.holds Tryd.pinned (.plain (OpenSpec.ofChange fnExactSlopeOfWordSpec)) fnExactSlopeOfWordCard

/-- THE TIED CARD OF 'laws.FnExactCutOf'. -/
def fnExactCutOfCard : Claim7 := { stood := { row := fnExactCutOfRow, standIns := [], harness := (true, "67e07f89ecd71cca4019efe4967e6da5367be539232e274197c8a88e4379b1b4"), looks := false }, kinds := [], alts := [], laidByText := true, laidKinds := [.data, .pinned], laidTests := true, laidLooks := .later }
def FnExactCutOfCardSaid : Prop := Claim7.holds Tryd.pinned (.plain (OpenSpec.ofChange fnExactCutOfSpec)) fnExactCutOfCard

/-- THE SECOND FORM's CARD OF 'laws.FnExactParseMorphism'. -/
def fnExactParseMorphismUptoCard : Claim7 := { stood := { row := fnExactParseMorphismUptoRow, standIns := [], harness := (true, "67e07f89ecd71cca4019efe4967e6da5367be539232e274197c8a88e4379b1b4"), looks := false }, kinds := [], alts := [], laidByText := true, laidKinds := [.data, .pinned], laidTests := true, laidLooks := .later }
def FnExactParseMorphismUptoCardSaid : Prop := Claim7.holds Tryd.pinned (.plain (OpenSpec.upto fnExactParseMorphismSpec)) fnExactParseMorphismUptoCard

/-- THE SECOND FORM's CARD OF 'laws.FnExactSlopeOfWord'. -/
def fnExactSlopeOfWordUptoCard : Claim7 := { stood := { row := fnExactSlopeOfWordUptoRow, standIns := [], harness := (true, "67e07f89ecd71cca4019efe4967e6da5367be539232e274197c8a88e4379b1b4"), looks := false }, kinds := [], alts := [], laidByText := true, laidKinds := [.data, .pinned], laidTests := true, laidLooks := .later }
def FnExactSlopeOfWordUptoCardSaid : Prop := Claim7.holds Tryd.pinned (.plain (OpenSpec.upto fnExactSlopeOfWordSpec)) fnExactSlopeOfWordUptoCard

/-- THE SECOND FORM's CARD OF 'laws.FnExactCutOf'. -/
def fnExactCutOfUptoCard : Claim7 := { stood := { row := fnExactCutOfUptoRow, standIns := [], harness := (true, "67e07f89ecd71cca4019efe4967e6da5367be539232e274197c8a88e4379b1b4"), looks := false }, kinds := [], alts := [], laidByText := true, laidKinds := [.data, .pinned], laidTests := true, laidLooks := .later }
def FnExactCutOfUptoCardSaid : Prop := Claim7.holds Tryd.pinned (.plain (OpenSpec.upto fnExactCutOfSpec)) fnExactCutOfUptoCard
end Rows
end Go.Proofs.YticejlplbibegaaDoor

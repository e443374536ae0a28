/-
  DERIVED. GIVEN WITH THE SEED: THE CARDS: each row of YticejlplbibegaaGreatDoorRows.lean that lists a variable, with what it lists TIED to the program's text (the seventh form; the later family's looks); each row that meets fmt, with fmt's text TOLD by the authors' own Lean function (tested against real Go, not proved from fmt's source: count such statements apart). THE CARD IS WHAT COUNTS. Prove the row's statement (the work); the ties are given (YticejlplbibegaaGreatDoorTie.lean); close each card by the builder's one call (the guide's Derived/Test/ToyasCard.lean, 'card_holds'). Laid BY PROGRAM, IN A SANDBOX (cutbox-door.mjs). By AI agents, Wed Nov 11 2026. No macro, syntax, notation, axiom, sorry.
-/
import Derived.Test.YticejlplbibegaaGreatDoorRows
import GoSem.ClaimSeven
namespace Go.Proofs.YticejlplbibegaaGreatDoor
namespace Rows

/-- THE TIED CARD OF 'laws.FnMorphisms'. -/
def fnMorphismsCard : Claim7 := { stood := { row := fnMorphismsRow, standIns := [], harness := (true, "80fcea5fb607573030ab0c498f23c09c3ff832f5dc0924c3132708bb5ba9d043"), looks := false }, kinds := [], alts := [], laidByText := true, laidKinds := [.data, .pinned], laidTests := true, laidLooks := .later }
def FnMorphismsCardSaid : Prop := Claim7.holds Tryz.pinned (.plain (OpenSpec.ofChange fnMorphismsSpec)) fnMorphismsCard

/-- THE TIED CARD OF 'laws.FnSlopes'. -/
def fnSlopesCard : Claim7 := { stood := { row := fnSlopesRow, standIns := [], harness := (true, "80fcea5fb607573030ab0c498f23c09c3ff832f5dc0924c3132708bb5ba9d043"), looks := false }, kinds := [], alts := [], laidByText := true, laidKinds := [.data, .pinned], laidTests := true, laidLooks := .later }
def FnSlopesCardSaid : Prop := Claim7.holds Tryz.pinned (.plain (OpenSpec.ofChange fnSlopesSpec)) fnSlopesCard

/-- THE TIED CARD OF 'laws.FnStandard'. -/
def fnStandardCard : Claim7 := { stood := { row := fnStandardRow, standIns := [], harness := (true, "80fcea5fb607573030ab0c498f23c09c3ff832f5dc0924c3132708bb5ba9d043"), looks := false }, kinds := [], alts := [], laidByText := true, laidKinds := [.data, .pinned], laidTests := true, laidLooks := .later }
def FnStandardCardSaid : Prop := Claim7.holds Tryz.pinned (.plain (OpenSpec.ofChange fnStandardSpec)) fnStandardCard

/-- THE SECOND FORM's CARD OF 'laws.FnMorphisms'. -/
def fnMorphismsUptoCard : Claim7 := { stood := { row := fnMorphismsUptoRow, standIns := [], harness := (true, "80fcea5fb607573030ab0c498f23c09c3ff832f5dc0924c3132708bb5ba9d043"), looks := false }, kinds := [], alts := [], laidByText := true, laidKinds := [.data, .pinned], laidTests := true, laidLooks := .later }
def FnMorphismsUptoCardSaid : Prop := Claim7.holds Tryz.pinned (.plain (OpenSpec.upto fnMorphismsSpec)) fnMorphismsUptoCard

/-- THE SECOND FORM's CARD OF 'laws.FnSlopes'. -/
def fnSlopesUptoCard : Claim7 := { stood := { row := fnSlopesUptoRow, standIns := [], harness := (true, "80fcea5fb607573030ab0c498f23c09c3ff832f5dc0924c3132708bb5ba9d043"), looks := false }, kinds := [], alts := [], laidByText := true, laidKinds := [.data, .pinned], laidTests := true, laidLooks := .later }
def FnSlopesUptoCardSaid : Prop := Claim7.holds Tryz.pinned (.plain (OpenSpec.upto fnSlopesSpec)) fnSlopesUptoCard

/-- THE SECOND FORM's CARD OF 'laws.FnStandard'. -/
def fnStandardUptoCard : Claim7 := { stood := { row := fnStandardUptoRow, standIns := [], harness := (true, "80fcea5fb607573030ab0c498f23c09c3ff832f5dc0924c3132708bb5ba9d043"), looks := false }, kinds := [], alts := [], laidByText := true, laidKinds := [.data, .pinned], laidTests := true, laidLooks := .later }
def FnStandardUptoCardSaid : Prop := Claim7.holds Tryz.pinned (.plain (OpenSpec.upto fnStandardSpec)) fnStandardUptoCard
end Rows
end Go.Proofs.YticejlplbibegaaGreatDoor

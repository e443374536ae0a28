/-
  DERIVED. GIVEN WITH THE SEED: THE CARDS: each row of YtapimhjbilkfpaaGreatDoorRows.lean that lists a variable, with what it lists TIED to the program's text (the seventh form; the later family's looks); each row that meets fmt, with fmt's text TOLD by the authors' own Lean function (tested against real Go, not proved from fmt's source: count such statements apart). THE CARD IS WHAT COUNTS. Prove the row's statement (the work); the ties are given (YtapimhjbilkfpaaGreatDoorTie.lean); close each card by the builder's one call (the guide's Derived/Test/ToyasCard.lean, 'card_holds'). Laid BY PROGRAM, IN A SANDBOX (cutbox-door.mjs). By AI agents, Wed Nov 11 2026. No macro, syntax, notation, axiom, sorry.
-/
import Derived.Test.YtapimhjbilkfpaaGreatDoorRows
import GoSem.ClaimSeven
namespace Go.Proofs.YtapimhjbilkfpaaGreatDoor
namespace Rows

/-- THE TIED CARD OF 'laws.FnExactConsole'. -/
def fnExactConsoleCard : Claim7 := { stood := { row := fnExactConsoleRow, standIns := [], harness := (true, "025cd4e28e3bdb50d667124443f117b7a42eb2096b844621bdcbed2d2beb0569"), looks := true }, kinds := [], alts := [], laidByText := true, laidKinds := [.data, .data, .data, .data, .sentinel, .sentinel, .pinned], laidTests := true, laidLooks := .later }
def FnExactConsoleCardSaid : Prop := Claim7.holds Tryz.pinned (.plain (OpenSpec.ofChange fnExactConsoleSpec)) fnExactConsoleCard

/-- THE TIED CARD OF 'laws.FnTopOfAll'. -/
def fnTopOfAllCard : Claim7 := { stood := { row := fnTopOfAllRow, standIns := [], harness := (true, "025cd4e28e3bdb50d667124443f117b7a42eb2096b844621bdcbed2d2beb0569"), looks := true }, kinds := [], alts := [], laidByText := true, laidKinds := [.data, .data, .data, .data, .sentinel, .sentinel, .pinned], laidTests := true, laidLooks := .later }
def FnTopOfAllCardSaid : Prop := Claim7.holds Tryz.pinned (.plain (OpenSpec.ofChange fnTopOfAllSpec)) fnTopOfAllCard

/-- THE TIED CARD OF 'laws.FnExactRunLine'. -/
def fnExactRunLineCard : Claim7 := { stood := { row := fnExactRunLineRow, standIns := [], harness := (true, "025cd4e28e3bdb50d667124443f117b7a42eb2096b844621bdcbed2d2beb0569"), looks := true }, kinds := [], alts := [], laidByText := true, laidKinds := [.data, .data, .data, .data, .sentinel, .sentinel, .pinned], laidTests := true, laidLooks := .later }
def FnExactRunLineCardSaid : Prop := Claim7.holds Tryz.pinned (.plain (OpenSpec.ofChange fnExactRunLineSpec)) fnExactRunLineCard

/-- THE TIED CARD OF 'laws.FnExactDeskAfter'. -/
def fnExactDeskAfterCard : Claim7 := { stood := { row := fnExactDeskAfterRow, standIns := [], harness := (true, "025cd4e28e3bdb50d667124443f117b7a42eb2096b844621bdcbed2d2beb0569"), looks := true }, kinds := [], alts := [], laidByText := true, laidKinds := [.data, .data, .data, .data, .sentinel, .sentinel, .pinned], laidTests := true, laidLooks := .later }
def FnExactDeskAfterCardSaid : Prop := Claim7.holds Tryz.pinned (.plain (OpenSpec.ofChange fnExactDeskAfterSpec)) fnExactDeskAfterCard

/-- THE TIED CARD OF 'laws.FnConsole'. -/
def fnConsoleCard : Claim7 := { stood := { row := fnConsoleRow, standIns := [], harness := (true, "025cd4e28e3bdb50d667124443f117b7a42eb2096b844621bdcbed2d2beb0569"), looks := true }, kinds := [], alts := [], laidByText := true, laidKinds := [.data, .data, .data, .data, .sentinel, .sentinel, .pinned], laidTests := true, laidLooks := .later }
def FnConsoleCardSaid : Prop := Claim7.holds Tryz.pinned (.plain (OpenSpec.ofChange fnConsoleSpec)) fnConsoleCard

/-- THE SECOND FORM's CARD OF 'laws.FnExactConsole'. -/
def fnExactConsoleUptoCard : Claim7 := { stood := { row := fnExactConsoleUptoRow, standIns := [], harness := (true, "025cd4e28e3bdb50d667124443f117b7a42eb2096b844621bdcbed2d2beb0569"), looks := true }, kinds := [], alts := [], laidByText := true, laidKinds := [.data, .data, .data, .data, .sentinel, .sentinel, .pinned], laidTests := true, laidLooks := .later }
def FnExactConsoleUptoCardSaid : Prop := Claim7.holds Tryz.pinned (.plain (OpenSpec.upto fnExactConsoleSpec)) fnExactConsoleUptoCard

/-- THE SECOND FORM's CARD OF 'laws.FnTopOfAll'. -/
def fnTopOfAllUptoCard : Claim7 := { stood := { row := fnTopOfAllUptoRow, standIns := [], harness := (true, "025cd4e28e3bdb50d667124443f117b7a42eb2096b844621bdcbed2d2beb0569"), looks := true }, kinds := [], alts := [], laidByText := true, laidKinds := [.data, .data, .data, .data, .sentinel, .sentinel, .pinned], laidTests := true, laidLooks := .later }
def FnTopOfAllUptoCardSaid : Prop := Claim7.holds Tryz.pinned (.plain (OpenSpec.upto fnTopOfAllSpec)) fnTopOfAllUptoCard

/-- THE SECOND FORM's CARD OF 'laws.FnExactRunLine'. -/
def fnExactRunLineUptoCard : Claim7 := { stood := { row := fnExactRunLineUptoRow, standIns := [], harness := (true, "025cd4e28e3bdb50d667124443f117b7a42eb2096b844621bdcbed2d2beb0569"), looks := true }, kinds := [], alts := [], laidByText := true, laidKinds := [.data, .data, .data, .data, .sentinel, .sentinel, .pinned], laidTests := true, laidLooks := .later }
def FnExactRunLineUptoCardSaid : Prop := Claim7.holds Tryz.pinned (.plain (OpenSpec.upto fnExactRunLineSpec)) fnExactRunLineUptoCard

/-- THE SECOND FORM's CARD OF 'laws.FnExactDeskAfter'. -/
def fnExactDeskAfterUptoCard : Claim7 := { stood := { row := fnExactDeskAfterUptoRow, standIns := [], harness := (true, "025cd4e28e3bdb50d667124443f117b7a42eb2096b844621bdcbed2d2beb0569"), looks := true }, kinds := [], alts := [], laidByText := true, laidKinds := [.data, .data, .data, .data, .sentinel, .sentinel, .pinned], laidTests := true, laidLooks := .later }
def FnExactDeskAfterUptoCardSaid : Prop := Claim7.holds Tryz.pinned (.plain (OpenSpec.upto fnExactDeskAfterSpec)) fnExactDeskAfterUptoCard

/-- THE SECOND FORM's CARD OF 'laws.FnConsole'. -/
def fnConsoleUptoCard : Claim7 := { stood := { row := fnConsoleUptoRow, standIns := [], harness := (true, "025cd4e28e3bdb50d667124443f117b7a42eb2096b844621bdcbed2d2beb0569"), looks := true }, kinds := [], alts := [], laidByText := true, laidKinds := [.data, .data, .data, .data, .sentinel, .sentinel, .pinned], laidTests := true, laidLooks := .later }
def FnConsoleUptoCardSaid : Prop := Claim7.holds Tryz.pinned (.plain (OpenSpec.upto fnConsoleSpec)) fnConsoleUptoCard
end Rows
end Go.Proofs.YtapimhjbilkfpaaGreatDoor

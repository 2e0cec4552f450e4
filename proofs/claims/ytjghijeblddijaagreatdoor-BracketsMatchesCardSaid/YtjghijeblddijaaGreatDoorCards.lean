/-
  DERIVED. GIVEN WITH THE SEED: THE CARDS: each row of YtjghijeblddijaaGreatDoorRows.lean that lists a variable, with what it lists TIED to the program's text (the seventh form; the later family's looks); each row that meets fmt, with fmt's text TOLD by the authors' own Lean function (tested against real Go, not proved from fmt's source: count such statements apart). THE CARD IS WHAT COUNTS. Prove the row's statement (the work); the ties are given (YtjghijeblddijaaGreatDoorTie.lean); close each card by the builder's one call (the guide's Derived/Test/ToyasCard.lean, 'card_holds'). Laid BY PROGRAM, IN A SANDBOX (cutbox-door.mjs). By AI agents, Wed Nov 11 2026. No macro, syntax, notation, axiom, sorry.
-/
import Derived.Test.YtjghijeblddijaaGreatDoorRows
import GoSem.ClaimSeven
namespace Go.Proofs.YtjghijeblddijaaGreatDoor
namespace Rows

/-- THE TIED CARD OF 'environlaw05.BracketsOnly'. -/
def bracketsOnlyCard : Claim7 := { stood := { row := bracketsOnlyRow, standIns := [], harness := (true, "6ed03398002756c752ac90b6074b7ff65aa917e4a8da2b4c0e80bbbea77fcd63"), looks := true }, kinds := [], alts := [], laidByText := true, laidKinds := [.data, .data, .pinned, .pinned], laidTests := true, laidLooks := .later }
def BracketsOnlyCardSaid : Prop := Claim7.holds Tryz.pinned (.plain (OpenSpec.ofChange bracketsOnlySpec)) bracketsOnlyCard

/-- THE TIED CARD OF 'environlaw05.BracketsMatches'. -/
def bracketsMatchesCard : Claim7 := { stood := { row := bracketsMatchesRow, standIns := [], harness := (true, "6ed03398002756c752ac90b6074b7ff65aa917e4a8da2b4c0e80bbbea77fcd63"), looks := true }, kinds := [], alts := [], laidByText := true, laidKinds := [.data, .data, .pinned, .pinned], laidTests := true, laidLooks := .later }
def BracketsMatchesCardSaid : Prop := Claim7.holds Tryz.pinned (.plain (OpenSpec.ofChange bracketsMatchesSpec)) bracketsMatchesCard

/-- THE TIED CARD OF 'environlaw05.BracketsChecks'. -/
def bracketsChecksCard : Claim7 := { stood := { row := bracketsChecksRow, standIns := [], harness := (true, "6ed03398002756c752ac90b6074b7ff65aa917e4a8da2b4c0e80bbbea77fcd63"), looks := true }, kinds := [], alts := [], laidByText := true, laidKinds := [.data, .data, .pinned, .pinned], laidTests := true, laidLooks := .later }
def BracketsChecksCardSaid : Prop := Claim7.holds Tryz.pinned (.plain (OpenSpec.ofChange bracketsChecksSpec)) bracketsChecksCard

/-- THE TIED CARD OF 'environlaw05.BracketsFinds'. -/
def bracketsFindsCard : Claim7 := { stood := { row := bracketsFindsRow, standIns := [], harness := (true, "6ed03398002756c752ac90b6074b7ff65aa917e4a8da2b4c0e80bbbea77fcd63"), looks := true }, kinds := [], alts := [], laidByText := true, laidKinds := [.data, .data, .pinned, .pinned], laidTests := true, laidLooks := .later }
def BracketsFindsCardSaid : Prop := Claim7.holds Tryz.pinned (.plain (OpenSpec.ofChange bracketsFindsSpec)) bracketsFindsCard

/-- THE TIED CARD OF 'environlaw04.StropWrites'. -/
def stropWritesCard : Claim7 := { stood := { row := stropWritesRow, standIns := [], harness := (true, "6ed03398002756c752ac90b6074b7ff65aa917e4a8da2b4c0e80bbbea77fcd63"), looks := true }, kinds := [], alts := [], laidByText := true, laidKinds := [.data, .data, .pinned, .pinned], laidTests := true, laidLooks := .later }
def StropWritesCardSaid : Prop := Claim7.holds Tryz.pinned (.plain (OpenSpec.ofChange stropWritesSpec)) stropWritesCard

/-- THE TIED CARD OF 'environlaw04.StropReads'. -/
def stropReadsCard : Claim7 := { stood := { row := stropReadsRow, standIns := [], harness := (true, "6ed03398002756c752ac90b6074b7ff65aa917e4a8da2b4c0e80bbbea77fcd63"), looks := true }, kinds := [], alts := [], laidByText := true, laidKinds := [.data, .data, .pinned, .pinned], laidTests := true, laidLooks := .later }
def StropReadsCardSaid : Prop := Claim7.holds Tryz.pinned (.plain (OpenSpec.ofChange stropReadsSpec)) stropReadsCard

/-- THE TIED CARD OF 'environlaw04.StropAscends'. -/
def stropAscendsCard : Claim7 := { stood := { row := stropAscendsRow, standIns := [], harness := (true, "6ed03398002756c752ac90b6074b7ff65aa917e4a8da2b4c0e80bbbea77fcd63"), looks := true }, kinds := [], alts := [], laidByText := true, laidKinds := [.data, .data, .pinned, .pinned], laidTests := true, laidLooks := .later }
def StropAscendsCardSaid : Prop := Claim7.holds Tryz.pinned (.plain (OpenSpec.ofChange stropAscendsSpec)) stropAscendsCard

/-- THE TIED CARD OF 'environlaw04.StropBack'. -/
def stropBackCard : Claim7 := { stood := { row := stropBackRow, standIns := [], harness := (true, "6ed03398002756c752ac90b6074b7ff65aa917e4a8da2b4c0e80bbbea77fcd63"), looks := true }, kinds := [], alts := [], laidByText := true, laidKinds := [.data, .data, .pinned, .pinned], laidTests := true, laidLooks := .later }
def StropBackCardSaid : Prop := Claim7.holds Tryz.pinned (.plain (OpenSpec.ofChange stropBackSpec)) stropBackCard

/-- THE TIED CARD OF 'environlaw04.StropBlanks'. -/
def stropBlanksCard : Claim7 := { stood := { row := stropBlanksRow, standIns := [], harness := (true, "6ed03398002756c752ac90b6074b7ff65aa917e4a8da2b4c0e80bbbea77fcd63"), looks := true }, kinds := [], alts := [], laidByText := true, laidKinds := [.data, .data, .pinned, .pinned], laidTests := true, laidLooks := .later }
def StropBlanksCardSaid : Prop := Claim7.holds Tryz.pinned (.plain (OpenSpec.ofChange stropBlanksSpec)) stropBlanksCard

/-- THE TIED CARD OF 'environlaw04.StropRegimes'. -/
def stropRegimesCard : Claim7 := { stood := { row := stropRegimesRow, standIns := [], harness := (true, "6ed03398002756c752ac90b6074b7ff65aa917e4a8da2b4c0e80bbbea77fcd63"), looks := true }, kinds := [], alts := [], laidByText := true, laidKinds := [.data, .data, .pinned, .pinned], laidTests := true, laidLooks := .later }
def StropRegimesCardSaid : Prop := Claim7.holds Tryz.pinned (.plain (OpenSpec.ofChange stropRegimesSpec)) stropRegimesCard

/-- THE TIED CARD OF 'environlaw03.TextsDenotes'. -/
def textsDenotesCard : Claim7 := { stood := { row := textsDenotesRow, standIns := [], harness := (true, "6ed03398002756c752ac90b6074b7ff65aa917e4a8da2b4c0e80bbbea77fcd63"), looks := true }, kinds := [], alts := [], laidByText := true, laidKinds := [.data, .data, .data, .data, .pinned], laidTests := true, laidLooks := .later }
def TextsDenotesCardSaid : Prop := Claim7.holds Tryz.pinned (.plain (OpenSpec.ofChange textsDenotesSpec)) textsDenotesCard

/-- THE SECOND FORM's CARD OF 'environlaw05.BracketsOnly'. -/
def bracketsOnlyUptoCard : Claim7 := { stood := { row := bracketsOnlyUptoRow, standIns := [], harness := (true, "6ed03398002756c752ac90b6074b7ff65aa917e4a8da2b4c0e80bbbea77fcd63"), looks := true }, kinds := [], alts := [], laidByText := true, laidKinds := [.data, .data, .pinned, .pinned], laidTests := true, laidLooks := .later }
def BracketsOnlyUptoCardSaid : Prop := Claim7.holds Tryz.pinned (.plain (OpenSpec.upto bracketsOnlySpec)) bracketsOnlyUptoCard

/-- THE SECOND FORM's CARD OF 'environlaw05.BracketsMatches'. -/
def bracketsMatchesUptoCard : Claim7 := { stood := { row := bracketsMatchesUptoRow, standIns := [], harness := (true, "6ed03398002756c752ac90b6074b7ff65aa917e4a8da2b4c0e80bbbea77fcd63"), looks := true }, kinds := [], alts := [], laidByText := true, laidKinds := [.data, .data, .pinned, .pinned], laidTests := true, laidLooks := .later }
def BracketsMatchesUptoCardSaid : Prop := Claim7.holds Tryz.pinned (.plain (OpenSpec.upto bracketsMatchesSpec)) bracketsMatchesUptoCard

/-- THE SECOND FORM's CARD OF 'environlaw05.BracketsChecks'. -/
def bracketsChecksUptoCard : Claim7 := { stood := { row := bracketsChecksUptoRow, standIns := [], harness := (true, "6ed03398002756c752ac90b6074b7ff65aa917e4a8da2b4c0e80bbbea77fcd63"), looks := true }, kinds := [], alts := [], laidByText := true, laidKinds := [.data, .data, .pinned, .pinned], laidTests := true, laidLooks := .later }
def BracketsChecksUptoCardSaid : Prop := Claim7.holds Tryz.pinned (.plain (OpenSpec.upto bracketsChecksSpec)) bracketsChecksUptoCard

/-- THE SECOND FORM's CARD OF 'environlaw05.BracketsFinds'. -/
def bracketsFindsUptoCard : Claim7 := { stood := { row := bracketsFindsUptoRow, standIns := [], harness := (true, "6ed03398002756c752ac90b6074b7ff65aa917e4a8da2b4c0e80bbbea77fcd63"), looks := true }, kinds := [], alts := [], laidByText := true, laidKinds := [.data, .data, .pinned, .pinned], laidTests := true, laidLooks := .later }
def BracketsFindsUptoCardSaid : Prop := Claim7.holds Tryz.pinned (.plain (OpenSpec.upto bracketsFindsSpec)) bracketsFindsUptoCard

/-- THE SECOND FORM's CARD OF 'environlaw04.StropWrites'. -/
def stropWritesUptoCard : Claim7 := { stood := { row := stropWritesUptoRow, standIns := [], harness := (true, "6ed03398002756c752ac90b6074b7ff65aa917e4a8da2b4c0e80bbbea77fcd63"), looks := true }, kinds := [], alts := [], laidByText := true, laidKinds := [.data, .data, .pinned, .pinned], laidTests := true, laidLooks := .later }
def StropWritesUptoCardSaid : Prop := Claim7.holds Tryz.pinned (.plain (OpenSpec.upto stropWritesSpec)) stropWritesUptoCard

/-- THE SECOND FORM's CARD OF 'environlaw04.StropReads'. -/
def stropReadsUptoCard : Claim7 := { stood := { row := stropReadsUptoRow, standIns := [], harness := (true, "6ed03398002756c752ac90b6074b7ff65aa917e4a8da2b4c0e80bbbea77fcd63"), looks := true }, kinds := [], alts := [], laidByText := true, laidKinds := [.data, .data, .pinned, .pinned], laidTests := true, laidLooks := .later }
def StropReadsUptoCardSaid : Prop := Claim7.holds Tryz.pinned (.plain (OpenSpec.upto stropReadsSpec)) stropReadsUptoCard

/-- THE SECOND FORM's CARD OF 'environlaw04.StropAscends'. -/
def stropAscendsUptoCard : Claim7 := { stood := { row := stropAscendsUptoRow, standIns := [], harness := (true, "6ed03398002756c752ac90b6074b7ff65aa917e4a8da2b4c0e80bbbea77fcd63"), looks := true }, kinds := [], alts := [], laidByText := true, laidKinds := [.data, .data, .pinned, .pinned], laidTests := true, laidLooks := .later }
def StropAscendsUptoCardSaid : Prop := Claim7.holds Tryz.pinned (.plain (OpenSpec.upto stropAscendsSpec)) stropAscendsUptoCard

/-- THE SECOND FORM's CARD OF 'environlaw04.StropBack'. -/
def stropBackUptoCard : Claim7 := { stood := { row := stropBackUptoRow, standIns := [], harness := (true, "6ed03398002756c752ac90b6074b7ff65aa917e4a8da2b4c0e80bbbea77fcd63"), looks := true }, kinds := [], alts := [], laidByText := true, laidKinds := [.data, .data, .pinned, .pinned], laidTests := true, laidLooks := .later }
def StropBackUptoCardSaid : Prop := Claim7.holds Tryz.pinned (.plain (OpenSpec.upto stropBackSpec)) stropBackUptoCard

/-- THE SECOND FORM's CARD OF 'environlaw04.StropBlanks'. -/
def stropBlanksUptoCard : Claim7 := { stood := { row := stropBlanksUptoRow, standIns := [], harness := (true, "6ed03398002756c752ac90b6074b7ff65aa917e4a8da2b4c0e80bbbea77fcd63"), looks := true }, kinds := [], alts := [], laidByText := true, laidKinds := [.data, .data, .pinned, .pinned], laidTests := true, laidLooks := .later }
def StropBlanksUptoCardSaid : Prop := Claim7.holds Tryz.pinned (.plain (OpenSpec.upto stropBlanksSpec)) stropBlanksUptoCard

/-- THE SECOND FORM's CARD OF 'environlaw04.StropRegimes'. -/
def stropRegimesUptoCard : Claim7 := { stood := { row := stropRegimesUptoRow, standIns := [], harness := (true, "6ed03398002756c752ac90b6074b7ff65aa917e4a8da2b4c0e80bbbea77fcd63"), looks := true }, kinds := [], alts := [], laidByText := true, laidKinds := [.data, .data, .pinned, .pinned], laidTests := true, laidLooks := .later }
def StropRegimesUptoCardSaid : Prop := Claim7.holds Tryz.pinned (.plain (OpenSpec.upto stropRegimesSpec)) stropRegimesUptoCard

/-- THE SECOND FORM's CARD OF 'environlaw03.TextsDenotes'. -/
def textsDenotesUptoCard : Claim7 := { stood := { row := textsDenotesUptoRow, standIns := [], harness := (true, "6ed03398002756c752ac90b6074b7ff65aa917e4a8da2b4c0e80bbbea77fcd63"), looks := true }, kinds := [], alts := [], laidByText := true, laidKinds := [.data, .data, .data, .data, .pinned], laidTests := true, laidLooks := .later }
def TextsDenotesUptoCardSaid : Prop := Claim7.holds Tryz.pinned (.plain (OpenSpec.upto textsDenotesSpec)) textsDenotesUptoCard
end Rows
end Go.Proofs.YtjghijeblddijaaGreatDoor

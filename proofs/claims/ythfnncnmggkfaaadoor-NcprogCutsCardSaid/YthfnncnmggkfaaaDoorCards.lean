/-
  DERIVED. GIVEN WITH THE SEED: THE CARDS: each row of YthfnncnmggkfaaaDoorRows.lean that lists a variable, with what it lists TIED to the program's text (the seventh form; the later family's looks); each row that meets fmt, with fmt's text TOLD by the authors' own Lean function (tested against real Go, not proved from fmt's source: count such statements apart). THE CARD IS WHAT COUNTS. Prove the row's statement (the work); the ties are given (YthfnncnmggkfaaaDoorTie.lean); close each card by the builder's one call (the guide's Derived/Test/ToyasCard.lean, 'card_holds'). Laid BY PROGRAM, IN A SANDBOX (cutbox-door.mjs). By AI agents, Wed Nov 11 2026. No macro, syntax, notation, axiom, sorry.
-/
import Derived.Test.YthfnncnmggkfaaaDoorRows
import GoSem.ClaimSeven
namespace Go.Proofs.YthfnncnmggkfaaaDoor
namespace Rows

/-- THE TIED CARD OF 'shipyardlaw27.NcprogMakes'. -/
def ncprogMakesCard : Claim7 := { stood := { row := ncprogMakesRow, standIns := [], harness := (true, "9ed50ccd0bd7ed056ef7fede12f7ab6609eb15058a2d133a7f574513d56d849a"), looks := true }, kinds := [], alts := [], laidByText := true, laidKinds := [.data, .data, .data], laidTests := true, laidLooks := .later }
def NcprogMakesCardSaid : Prop := Claim7.holds Tryd.pinned (.plain (OpenSpec.ofChange ncprogMakesSpec)) ncprogMakesCard

/-- THE TIED CARD OF 'shipyardlaw27.NcprogTexts'. -/
def ncprogTextsCard : Claim7 := { stood := { row := ncprogTextsRow, standIns := [], harness := (true, "9ed50ccd0bd7ed056ef7fede12f7ab6609eb15058a2d133a7f574513d56d849a"), looks := true }, kinds := [], alts := [], laidByText := true, laidKinds := [.data, .data, .data], laidTests := true, laidLooks := .later }
def NcprogTextsCardSaid : Prop := Claim7.holds Tryd.pinned (.plain (OpenSpec.ofChange ncprogTextsSpec)) ncprogTextsCard

/-- THE TIED CARD OF 'shipyardlaw27.NcprogParses'. -/
def ncprogParsesCard : Claim7 := { stood := { row := ncprogParsesRow, standIns := [], harness := (true, "9ed50ccd0bd7ed056ef7fede12f7ab6609eb15058a2d133a7f574513d56d849a"), looks := true }, kinds := [], alts := [], laidByText := true, laidKinds := [.data, .data, .data], laidTests := true, laidLooks := .later }
def NcprogParsesCardSaid : Prop := Claim7.holds Tryd.pinned (.plain (OpenSpec.ofChange ncprogParsesSpec)) ncprogParsesCard

/-- THE TIED CARD OF 'shipyardlaw27.NcprogRuns'. -/
def ncprogRunsCard : Claim7 := { stood := { row := ncprogRunsRow, standIns := [], harness := (true, "9ed50ccd0bd7ed056ef7fede12f7ab6609eb15058a2d133a7f574513d56d849a"), looks := true }, kinds := [], alts := [], laidByText := true, laidKinds := [.data, .data, .data], laidTests := true, laidLooks := .later }
def NcprogRunsCardSaid : Prop := Claim7.holds Tryd.pinned (.plain (OpenSpec.ofChange ncprogRunsSpec)) ncprogRunsCard

/-- THE TIED CARD OF 'shipyardlaw27.NcprogLong'. -/
def ncprogLongCard : Claim7 := { stood := { row := ncprogLongRow, standIns := [], harness := (true, "9ed50ccd0bd7ed056ef7fede12f7ab6609eb15058a2d133a7f574513d56d849a"), looks := true }, kinds := [], alts := [], laidByText := true, laidKinds := [.data, .data, .data], laidTests := true, laidLooks := .later }
def NcprogLongCardSaid : Prop := Claim7.holds Tryd.pinned (.plain (OpenSpec.ofChange ncprogLongSpec)) ncprogLongCard

/-- THE TIED CARD OF 'shipyardlaw27.NcprogBack'. -/
def ncprogBackCard : Claim7 := { stood := { row := ncprogBackRow, standIns := [], harness := (true, "9ed50ccd0bd7ed056ef7fede12f7ab6609eb15058a2d133a7f574513d56d849a"), looks := true }, kinds := [], alts := [], laidByText := true, laidKinds := [.data, .data, .data], laidTests := true, laidLooks := .later }
def NcprogBackCardSaid : Prop := Claim7.holds Tryd.pinned (.plain (OpenSpec.ofChange ncprogBackSpec)) ncprogBackCard

/-- THE TIED CARD OF 'shipyardlaw27.NcprogCuts'. -/
def ncprogCutsCard : Claim7 := { stood := { row := ncprogCutsRow, standIns := [], harness := (true, "9ed50ccd0bd7ed056ef7fede12f7ab6609eb15058a2d133a7f574513d56d849a"), looks := true }, kinds := [], alts := [], laidByText := true, laidKinds := [.data, .data, .data], laidTests := true, laidLooks := .later }
def NcprogCutsCardSaid : Prop := Claim7.holds Tryd.pinned (.plain (OpenSpec.ofChange ncprogCutsSpec)) ncprogCutsCard

/-- THE TIED CARD OF 'shipyardlaw27.NcprogOrders'. -/
def ncprogOrdersCard : Claim7 := { stood := { row := ncprogOrdersRow, standIns := [], harness := (true, "9ed50ccd0bd7ed056ef7fede12f7ab6609eb15058a2d133a7f574513d56d849a"), looks := true }, kinds := [], alts := [], laidByText := true, laidKinds := [.data, .data, .data], laidTests := true, laidLooks := .later }
def NcprogOrdersCardSaid : Prop := Claim7.holds Tryd.pinned (.plain (OpenSpec.ofChange ncprogOrdersSpec)) ncprogOrdersCard

/-- THE SECOND FORM's CARD OF 'shipyardlaw27.NcprogMakes'. -/
def ncprogMakesUptoCard : Claim7 := { stood := { row := ncprogMakesUptoRow, standIns := [], harness := (true, "9ed50ccd0bd7ed056ef7fede12f7ab6609eb15058a2d133a7f574513d56d849a"), looks := true }, kinds := [], alts := [], laidByText := true, laidKinds := [.data, .data, .data], laidTests := true, laidLooks := .later }
def NcprogMakesUptoCardSaid : Prop := Claim7.holds Tryd.pinned (.plain (OpenSpec.upto ncprogMakesSpec)) ncprogMakesUptoCard

/-- THE SECOND FORM's CARD OF 'shipyardlaw27.NcprogTexts'. -/
def ncprogTextsUptoCard : Claim7 := { stood := { row := ncprogTextsUptoRow, standIns := [], harness := (true, "9ed50ccd0bd7ed056ef7fede12f7ab6609eb15058a2d133a7f574513d56d849a"), looks := true }, kinds := [], alts := [], laidByText := true, laidKinds := [.data, .data, .data], laidTests := true, laidLooks := .later }
def NcprogTextsUptoCardSaid : Prop := Claim7.holds Tryd.pinned (.plain (OpenSpec.upto ncprogTextsSpec)) ncprogTextsUptoCard

/-- THE SECOND FORM's CARD OF 'shipyardlaw27.NcprogParses'. -/
def ncprogParsesUptoCard : Claim7 := { stood := { row := ncprogParsesUptoRow, standIns := [], harness := (true, "9ed50ccd0bd7ed056ef7fede12f7ab6609eb15058a2d133a7f574513d56d849a"), looks := true }, kinds := [], alts := [], laidByText := true, laidKinds := [.data, .data, .data], laidTests := true, laidLooks := .later }
def NcprogParsesUptoCardSaid : Prop := Claim7.holds Tryd.pinned (.plain (OpenSpec.upto ncprogParsesSpec)) ncprogParsesUptoCard

/-- THE SECOND FORM's CARD OF 'shipyardlaw27.NcprogRuns'. -/
def ncprogRunsUptoCard : Claim7 := { stood := { row := ncprogRunsUptoRow, standIns := [], harness := (true, "9ed50ccd0bd7ed056ef7fede12f7ab6609eb15058a2d133a7f574513d56d849a"), looks := true }, kinds := [], alts := [], laidByText := true, laidKinds := [.data, .data, .data], laidTests := true, laidLooks := .later }
def NcprogRunsUptoCardSaid : Prop := Claim7.holds Tryd.pinned (.plain (OpenSpec.upto ncprogRunsSpec)) ncprogRunsUptoCard

/-- THE SECOND FORM's CARD OF 'shipyardlaw27.NcprogLong'. -/
def ncprogLongUptoCard : Claim7 := { stood := { row := ncprogLongUptoRow, standIns := [], harness := (true, "9ed50ccd0bd7ed056ef7fede12f7ab6609eb15058a2d133a7f574513d56d849a"), looks := true }, kinds := [], alts := [], laidByText := true, laidKinds := [.data, .data, .data], laidTests := true, laidLooks := .later }
def NcprogLongUptoCardSaid : Prop := Claim7.holds Tryd.pinned (.plain (OpenSpec.upto ncprogLongSpec)) ncprogLongUptoCard

/-- THE SECOND FORM's CARD OF 'shipyardlaw27.NcprogBack'. -/
def ncprogBackUptoCard : Claim7 := { stood := { row := ncprogBackUptoRow, standIns := [], harness := (true, "9ed50ccd0bd7ed056ef7fede12f7ab6609eb15058a2d133a7f574513d56d849a"), looks := true }, kinds := [], alts := [], laidByText := true, laidKinds := [.data, .data, .data], laidTests := true, laidLooks := .later }
def NcprogBackUptoCardSaid : Prop := Claim7.holds Tryd.pinned (.plain (OpenSpec.upto ncprogBackSpec)) ncprogBackUptoCard

/-- THE SECOND FORM's CARD OF 'shipyardlaw27.NcprogCuts'. -/
def ncprogCutsUptoCard : Claim7 := { stood := { row := ncprogCutsUptoRow, standIns := [], harness := (true, "9ed50ccd0bd7ed056ef7fede12f7ab6609eb15058a2d133a7f574513d56d849a"), looks := true }, kinds := [], alts := [], laidByText := true, laidKinds := [.data, .data, .data], laidTests := true, laidLooks := .later }
def NcprogCutsUptoCardSaid : Prop := Claim7.holds Tryd.pinned (.plain (OpenSpec.upto ncprogCutsSpec)) ncprogCutsUptoCard

/-- THE SECOND FORM's CARD OF 'shipyardlaw27.NcprogOrders'. -/
def ncprogOrdersUptoCard : Claim7 := { stood := { row := ncprogOrdersUptoRow, standIns := [], harness := (true, "9ed50ccd0bd7ed056ef7fede12f7ab6609eb15058a2d133a7f574513d56d849a"), looks := true }, kinds := [], alts := [], laidByText := true, laidKinds := [.data, .data, .data], laidTests := true, laidLooks := .later }
def NcprogOrdersUptoCardSaid : Prop := Claim7.holds Tryd.pinned (.plain (OpenSpec.upto ncprogOrdersSpec)) ncprogOrdersUptoCard
end Rows
end Go.Proofs.YthfnncnmggkfaaaDoor

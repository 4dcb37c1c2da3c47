/-
  DERIVED. GIVEN WITH THE SEED: THE CARDS: each row of YticohjhohbkmaaaDoorRows.lean that lists a variable, with what it lists TIED to the program's text (the seventh form; the later family's looks); each row that meets fmt, with fmt's text TOLD by the authors' own Lean function (tested against real Go, not proved from fmt's source: count such statements apart). THE CARD IS WHAT COUNTS. Prove the row's statement (the work); the ties are given (YticohjhohbkmaaaDoorTie.lean); close each card by the builder's one call (the guide's Derived/Test/ToyasCard.lean, 'card_holds'). Laid BY PROGRAM, IN A SANDBOX (cutbox-door.mjs). By AI agents, Wed Nov 11 2026. No macro, syntax, notation, axiom, sorry.
-/
import Derived.Test.YticohjhohbkmaaaDoorRows
import GoSem.ClaimSeven
namespace Go.Proofs.YticohjhohbkmaaaDoor
namespace Rows

/-- THE TIED CARD OF 'shipyardlaw01.NumDivides'. -/
def numDividesCard : Claim7 := { stood := { row := numDividesRow, standIns := [], harness := (true, "4b311f2509d5067a761e063293bd2f0a422a3750ebf8b168a23d67cd1661dbf7"), looks := false }, kinds := [], alts := [], laidByText := true, laidKinds := [.data, .data, .data], laidTests := true, laidLooks := .later }
def NumDividesCardSaid : Prop := Claim7.holds Tryd.pinned (.plain (OpenSpec.ofChange numDividesSpec)) numDividesCard

/-- THE TIED CARD OF 'shipyardlaw01.NumProducts'. -/
def numProductsCard : Claim7 := { stood := { row := numProductsRow, standIns := [], harness := (true, "4b311f2509d5067a761e063293bd2f0a422a3750ebf8b168a23d67cd1661dbf7"), looks := false }, kinds := [], alts := [], laidByText := true, laidKinds := [.data, .data, .data], laidTests := true, laidLooks := .later }
def NumProductsCardSaid : Prop := Claim7.holds Tryd.pinned (.plain (OpenSpec.ofChange numProductsSpec)) numProductsCard

/-- THE TIED CARD OF 'shipyardlaw01.NumGcds'. -/
def numGcdsCard : Claim7 := { stood := { row := numGcdsRow, standIns := [], harness := (true, "4b311f2509d5067a761e063293bd2f0a422a3750ebf8b168a23d67cd1661dbf7"), looks := false }, kinds := [], alts := [], laidByText := true, laidKinds := [.data, .data, .data], laidTests := true, laidLooks := .later }
def NumGcdsCardSaid : Prop := Claim7.holds Tryd.pinned (.plain (OpenSpec.ofChange numGcdsSpec)) numGcdsCard

/-- THE TIED CARD OF 'shipyardlaw01.NumRoots'. -/
def numRootsCard : Claim7 := { stood := { row := numRootsRow, standIns := [], harness := (true, "4b311f2509d5067a761e063293bd2f0a422a3750ebf8b168a23d67cd1661dbf7"), looks := false }, kinds := [], alts := [], laidByText := true, laidKinds := [.data, .data, .data], laidTests := true, laidLooks := .later }
def NumRootsCardSaid : Prop := Claim7.holds Tryd.pinned (.plain (OpenSpec.ofChange numRootsSpec)) numRootsCard

/-- THE TIED CARD OF 'shipyardlaw01.NumSums'. -/
def numSumsCard : Claim7 := { stood := { row := numSumsRow, standIns := [], harness := (true, "4b311f2509d5067a761e063293bd2f0a422a3750ebf8b168a23d67cd1661dbf7"), looks := false }, kinds := [], alts := [], laidByText := true, laidKinds := [.data, .data, .data], laidTests := true, laidLooks := .later }
def NumSumsCardSaid : Prop := Claim7.holds Tryd.pinned (.plain (OpenSpec.ofChange numSumsSpec)) numSumsCard

/-- THE TIED CARD OF 'shipyardlaw01.NumTexts'. -/
def numTextsCard : Claim7 := { stood := { row := numTextsRow, standIns := [], harness := (true, "4b311f2509d5067a761e063293bd2f0a422a3750ebf8b168a23d67cd1661dbf7"), looks := false }, kinds := [], alts := [], laidByText := true, laidKinds := [.data, .data, .data], laidTests := true, laidLooks := .later }
def NumTextsCardSaid : Prop := Claim7.holds Tryd.pinned (.plain (OpenSpec.ofChange numTextsSpec)) numTextsCard

/-- THE TIED CARD OF 'shipyardlaw01.NumParses'. -/
def numParsesCard : Claim7 := { stood := { row := numParsesRow, standIns := [], harness := (true, "4b311f2509d5067a761e063293bd2f0a422a3750ebf8b168a23d67cd1661dbf7"), looks := false }, kinds := [], alts := [], laidByText := true, laidKinds := [.data, .data, .data], laidTests := true, laidLooks := .later }
def NumParsesCardSaid : Prop := Claim7.holds Tryd.pinned (.plain (OpenSpec.ofChange numParsesSpec)) numParsesCard

/-- THE TIED CARD OF 'shipyardlaw01.NumRounds'. -/
def numRoundsCard : Claim7 := { stood := { row := numRoundsRow, standIns := [], harness := (true, "4b311f2509d5067a761e063293bd2f0a422a3750ebf8b168a23d67cd1661dbf7"), looks := false }, kinds := [], alts := [], laidByText := true, laidKinds := [.data, .data, .data], laidTests := true, laidLooks := .later }
def NumRoundsCardSaid : Prop := Claim7.holds Tryd.pinned (.plain (OpenSpec.ofChange numRoundsSpec)) numRoundsCard

/-- THE TIED CARD OF 'shipyardlaw01.NumExact'. -/
def numExactCard : Claim7 := { stood := { row := numExactRow, standIns := [], harness := (true, "4b311f2509d5067a761e063293bd2f0a422a3750ebf8b168a23d67cd1661dbf7"), looks := false }, kinds := [], alts := [], laidByText := true, laidKinds := [.data, .data, .data], laidTests := true, laidLooks := .later }
def NumExactCardSaid : Prop := Claim7.holds Tryd.pinned (.plain (OpenSpec.ofChange numExactSpec)) numExactCard

/-- THE SECOND FORM's CARD OF 'shipyardlaw01.NumDivides'. -/
def numDividesUptoCard : Claim7 := { stood := { row := numDividesUptoRow, standIns := [], harness := (true, "4b311f2509d5067a761e063293bd2f0a422a3750ebf8b168a23d67cd1661dbf7"), looks := false }, kinds := [], alts := [], laidByText := true, laidKinds := [.data, .data, .data], laidTests := true, laidLooks := .later }
def NumDividesUptoCardSaid : Prop := Claim7.holds Tryd.pinned (.plain (OpenSpec.upto numDividesSpec)) numDividesUptoCard

/-- THE SECOND FORM's CARD OF 'shipyardlaw01.NumProducts'. -/
def numProductsUptoCard : Claim7 := { stood := { row := numProductsUptoRow, standIns := [], harness := (true, "4b311f2509d5067a761e063293bd2f0a422a3750ebf8b168a23d67cd1661dbf7"), looks := false }, kinds := [], alts := [], laidByText := true, laidKinds := [.data, .data, .data], laidTests := true, laidLooks := .later }
def NumProductsUptoCardSaid : Prop := Claim7.holds Tryd.pinned (.plain (OpenSpec.upto numProductsSpec)) numProductsUptoCard

/-- THE SECOND FORM's CARD OF 'shipyardlaw01.NumGcds'. -/
def numGcdsUptoCard : Claim7 := { stood := { row := numGcdsUptoRow, standIns := [], harness := (true, "4b311f2509d5067a761e063293bd2f0a422a3750ebf8b168a23d67cd1661dbf7"), looks := false }, kinds := [], alts := [], laidByText := true, laidKinds := [.data, .data, .data], laidTests := true, laidLooks := .later }
def NumGcdsUptoCardSaid : Prop := Claim7.holds Tryd.pinned (.plain (OpenSpec.upto numGcdsSpec)) numGcdsUptoCard

/-- THE SECOND FORM's CARD OF 'shipyardlaw01.NumRoots'. -/
def numRootsUptoCard : Claim7 := { stood := { row := numRootsUptoRow, standIns := [], harness := (true, "4b311f2509d5067a761e063293bd2f0a422a3750ebf8b168a23d67cd1661dbf7"), looks := false }, kinds := [], alts := [], laidByText := true, laidKinds := [.data, .data, .data], laidTests := true, laidLooks := .later }
def NumRootsUptoCardSaid : Prop := Claim7.holds Tryd.pinned (.plain (OpenSpec.upto numRootsSpec)) numRootsUptoCard

/-- THE SECOND FORM's CARD OF 'shipyardlaw01.NumSums'. -/
def numSumsUptoCard : Claim7 := { stood := { row := numSumsUptoRow, standIns := [], harness := (true, "4b311f2509d5067a761e063293bd2f0a422a3750ebf8b168a23d67cd1661dbf7"), looks := false }, kinds := [], alts := [], laidByText := true, laidKinds := [.data, .data, .data], laidTests := true, laidLooks := .later }
def NumSumsUptoCardSaid : Prop := Claim7.holds Tryd.pinned (.plain (OpenSpec.upto numSumsSpec)) numSumsUptoCard

/-- THE SECOND FORM's CARD OF 'shipyardlaw01.NumTexts'. -/
def numTextsUptoCard : Claim7 := { stood := { row := numTextsUptoRow, standIns := [], harness := (true, "4b311f2509d5067a761e063293bd2f0a422a3750ebf8b168a23d67cd1661dbf7"), looks := false }, kinds := [], alts := [], laidByText := true, laidKinds := [.data, .data, .data], laidTests := true, laidLooks := .later }
def NumTextsUptoCardSaid : Prop := Claim7.holds Tryd.pinned (.plain (OpenSpec.upto numTextsSpec)) numTextsUptoCard

/-- THE SECOND FORM's CARD OF 'shipyardlaw01.NumParses'. -/
def numParsesUptoCard : Claim7 := { stood := { row := numParsesUptoRow, standIns := [], harness := (true, "4b311f2509d5067a761e063293bd2f0a422a3750ebf8b168a23d67cd1661dbf7"), looks := false }, kinds := [], alts := [], laidByText := true, laidKinds := [.data, .data, .data], laidTests := true, laidLooks := .later }
def NumParsesUptoCardSaid : Prop := Claim7.holds Tryd.pinned (.plain (OpenSpec.upto numParsesSpec)) numParsesUptoCard

/-- THE SECOND FORM's CARD OF 'shipyardlaw01.NumRounds'. -/
def numRoundsUptoCard : Claim7 := { stood := { row := numRoundsUptoRow, standIns := [], harness := (true, "4b311f2509d5067a761e063293bd2f0a422a3750ebf8b168a23d67cd1661dbf7"), looks := false }, kinds := [], alts := [], laidByText := true, laidKinds := [.data, .data, .data], laidTests := true, laidLooks := .later }
def NumRoundsUptoCardSaid : Prop := Claim7.holds Tryd.pinned (.plain (OpenSpec.upto numRoundsSpec)) numRoundsUptoCard

/-- THE SECOND FORM's CARD OF 'shipyardlaw01.NumExact'. -/
def numExactUptoCard : Claim7 := { stood := { row := numExactUptoRow, standIns := [], harness := (true, "4b311f2509d5067a761e063293bd2f0a422a3750ebf8b168a23d67cd1661dbf7"), looks := false }, kinds := [], alts := [], laidByText := true, laidKinds := [.data, .data, .data], laidTests := true, laidLooks := .later }
def NumExactUptoCardSaid : Prop := Claim7.holds Tryd.pinned (.plain (OpenSpec.upto numExactSpec)) numExactUptoCard
end Rows
end Go.Proofs.YticohjhohbkmaaaDoor

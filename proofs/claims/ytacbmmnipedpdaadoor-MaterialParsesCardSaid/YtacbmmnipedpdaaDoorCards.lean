/-
  DERIVED. GIVEN WITH THE SEED: THE CARDS: each row of YtacbmmnipedpdaaDoorRows.lean that lists a variable, with what it lists TIED to the program's text (the seventh form; the later family's looks); each row that meets fmt, with fmt's text TOLD by the authors' own Lean function (tested against real Go, not proved from fmt's source: count such statements apart). THE CARD IS WHAT COUNTS. Prove the row's statement (the work); the ties are given (YtacbmmnipedpdaaDoorTie.lean); close each card by the builder's one call (the guide's Derived/Test/ToyasCard.lean, 'card_holds'). Laid BY PROGRAM, IN A SANDBOX (cutbox-door.mjs). By AI agents, Wed Nov 11 2026. No macro, syntax, notation, axiom, sorry.
-/
import Derived.Test.YtacbmmnipedpdaaDoorRows
import GoSem.ClaimSeven
namespace Go.Proofs.YtacbmmnipedpdaaDoor
namespace Rows

/-- THE TIED CARD OF 'shipyardlaw15.MaterialChecks'. -/
def materialChecksCard : Claim7 := { stood := { row := materialChecksRow, standIns := [], harness := (true, "05e3a11d4752ecc7da72625ba52e5769528089e29ce13ef4edde3adc06625241"), looks := true }, kinds := [], alts := [], laidByText := true, laidKinds := [.data, .data, .data], laidTests := true, laidLooks := .later }
def MaterialChecksCardSaid : Prop := Claim7.holds Tryd.pinned (.plain (OpenSpec.ofChange materialChecksSpec)) materialChecksCard

/-- THE TIED CARD OF 'shipyardlaw15.MaterialFinds'. -/
def materialFindsCard : Claim7 := { stood := { row := materialFindsRow, standIns := [], harness := (true, "05e3a11d4752ecc7da72625ba52e5769528089e29ce13ef4edde3adc06625241"), looks := true }, kinds := [], alts := [], laidByText := true, laidKinds := [.data, .data, .data], laidTests := true, laidLooks := .later }
def MaterialFindsCardSaid : Prop := Claim7.holds Tryd.pinned (.plain (OpenSpec.ofChange materialFindsSpec)) materialFindsCard

/-- THE TIED CARD OF 'shipyardlaw15.MaterialTexts'. -/
def materialTextsCard : Claim7 := { stood := { row := materialTextsRow, standIns := [], harness := (true, "05e3a11d4752ecc7da72625ba52e5769528089e29ce13ef4edde3adc06625241"), looks := true }, kinds := [], alts := [], laidByText := true, laidKinds := [.data, .data, .data], laidTests := true, laidLooks := .later }
def MaterialTextsCardSaid : Prop := Claim7.holds Tryd.pinned (.plain (OpenSpec.ofChange materialTextsSpec)) materialTextsCard

/-- THE TIED CARD OF 'shipyardlaw15.MaterialParses'. -/
def materialParsesCard : Claim7 := { stood := { row := materialParsesRow, standIns := [], harness := (true, "05e3a11d4752ecc7da72625ba52e5769528089e29ce13ef4edde3adc06625241"), looks := true }, kinds := [], alts := [], laidByText := true, laidKinds := [.data, .data, .data], laidTests := true, laidLooks := .later }
def MaterialParsesCardSaid : Prop := Claim7.holds Tryd.pinned (.plain (OpenSpec.ofChange materialParsesSpec)) materialParsesCard

/-- THE TIED CARD OF 'shipyardlaw15.MaterialBack'. -/
def materialBackCard : Claim7 := { stood := { row := materialBackRow, standIns := [], harness := (true, "05e3a11d4752ecc7da72625ba52e5769528089e29ce13ef4edde3adc06625241"), looks := true }, kinds := [], alts := [], laidByText := true, laidKinds := [.data, .data, .data], laidTests := true, laidLooks := .later }
def MaterialBackCardSaid : Prop := Claim7.holds Tryd.pinned (.plain (OpenSpec.ofChange materialBackSpec)) materialBackCard

/-- THE TIED CARD OF 'shipyardlaw15.MaterialReads'. -/
def materialReadsCard : Claim7 := { stood := { row := materialReadsRow, standIns := [], harness := (true, "05e3a11d4752ecc7da72625ba52e5769528089e29ce13ef4edde3adc06625241"), looks := true }, kinds := [], alts := [], laidByText := true, laidKinds := [.data, .data, .data], laidTests := true, laidLooks := .later }
def MaterialReadsCardSaid : Prop := Claim7.holds Tryd.pinned (.plain (OpenSpec.ofChange materialReadsSpec)) materialReadsCard

/-- THE TIED CARD OF 'shipyardlaw15.MaterialParts'. -/
def materialPartsCard : Claim7 := { stood := { row := materialPartsRow, standIns := [], harness := (true, "05e3a11d4752ecc7da72625ba52e5769528089e29ce13ef4edde3adc06625241"), looks := true }, kinds := [], alts := [], laidByText := true, laidKinds := [.data, .data, .data], laidTests := true, laidLooks := .later }
def MaterialPartsCardSaid : Prop := Claim7.holds Tryd.pinned (.plain (OpenSpec.ofChange materialPartsSpec)) materialPartsCard

/-- THE TIED CARD OF 'shipyardlaw15.MaterialRolls'. -/
def materialRollsCard : Claim7 := { stood := { row := materialRollsRow, standIns := [], harness := (true, "05e3a11d4752ecc7da72625ba52e5769528089e29ce13ef4edde3adc06625241"), looks := true }, kinds := [], alts := [], laidByText := true, laidKinds := [.data, .data, .data], laidTests := true, laidLooks := .later }
def MaterialRollsCardSaid : Prop := Claim7.holds Tryd.pinned (.plain (OpenSpec.ofChange materialRollsSpec)) materialRollsCard

/-- THE SECOND FORM's CARD OF 'shipyardlaw15.MaterialChecks'. -/
def materialChecksUptoCard : Claim7 := { stood := { row := materialChecksUptoRow, standIns := [], harness := (true, "05e3a11d4752ecc7da72625ba52e5769528089e29ce13ef4edde3adc06625241"), looks := true }, kinds := [], alts := [], laidByText := true, laidKinds := [.data, .data, .data], laidTests := true, laidLooks := .later }
def MaterialChecksUptoCardSaid : Prop := Claim7.holds Tryd.pinned (.plain (OpenSpec.upto materialChecksSpec)) materialChecksUptoCard

/-- THE SECOND FORM's CARD OF 'shipyardlaw15.MaterialFinds'. -/
def materialFindsUptoCard : Claim7 := { stood := { row := materialFindsUptoRow, standIns := [], harness := (true, "05e3a11d4752ecc7da72625ba52e5769528089e29ce13ef4edde3adc06625241"), looks := true }, kinds := [], alts := [], laidByText := true, laidKinds := [.data, .data, .data], laidTests := true, laidLooks := .later }
def MaterialFindsUptoCardSaid : Prop := Claim7.holds Tryd.pinned (.plain (OpenSpec.upto materialFindsSpec)) materialFindsUptoCard

/-- THE SECOND FORM's CARD OF 'shipyardlaw15.MaterialTexts'. -/
def materialTextsUptoCard : Claim7 := { stood := { row := materialTextsUptoRow, standIns := [], harness := (true, "05e3a11d4752ecc7da72625ba52e5769528089e29ce13ef4edde3adc06625241"), looks := true }, kinds := [], alts := [], laidByText := true, laidKinds := [.data, .data, .data], laidTests := true, laidLooks := .later }
def MaterialTextsUptoCardSaid : Prop := Claim7.holds Tryd.pinned (.plain (OpenSpec.upto materialTextsSpec)) materialTextsUptoCard

/-- THE SECOND FORM's CARD OF 'shipyardlaw15.MaterialParses'. -/
def materialParsesUptoCard : Claim7 := { stood := { row := materialParsesUptoRow, standIns := [], harness := (true, "05e3a11d4752ecc7da72625ba52e5769528089e29ce13ef4edde3adc06625241"), looks := true }, kinds := [], alts := [], laidByText := true, laidKinds := [.data, .data, .data], laidTests := true, laidLooks := .later }
def MaterialParsesUptoCardSaid : Prop := Claim7.holds Tryd.pinned (.plain (OpenSpec.upto materialParsesSpec)) materialParsesUptoCard

/-- THE SECOND FORM's CARD OF 'shipyardlaw15.MaterialBack'. -/
def materialBackUptoCard : Claim7 := { stood := { row := materialBackUptoRow, standIns := [], harness := (true, "05e3a11d4752ecc7da72625ba52e5769528089e29ce13ef4edde3adc06625241"), looks := true }, kinds := [], alts := [], laidByText := true, laidKinds := [.data, .data, .data], laidTests := true, laidLooks := .later }
def MaterialBackUptoCardSaid : Prop := Claim7.holds Tryd.pinned (.plain (OpenSpec.upto materialBackSpec)) materialBackUptoCard

/-- THE SECOND FORM's CARD OF 'shipyardlaw15.MaterialReads'. -/
def materialReadsUptoCard : Claim7 := { stood := { row := materialReadsUptoRow, standIns := [], harness := (true, "05e3a11d4752ecc7da72625ba52e5769528089e29ce13ef4edde3adc06625241"), looks := true }, kinds := [], alts := [], laidByText := true, laidKinds := [.data, .data, .data], laidTests := true, laidLooks := .later }
def MaterialReadsUptoCardSaid : Prop := Claim7.holds Tryd.pinned (.plain (OpenSpec.upto materialReadsSpec)) materialReadsUptoCard

/-- THE SECOND FORM's CARD OF 'shipyardlaw15.MaterialParts'. -/
def materialPartsUptoCard : Claim7 := { stood := { row := materialPartsUptoRow, standIns := [], harness := (true, "05e3a11d4752ecc7da72625ba52e5769528089e29ce13ef4edde3adc06625241"), looks := true }, kinds := [], alts := [], laidByText := true, laidKinds := [.data, .data, .data], laidTests := true, laidLooks := .later }
def MaterialPartsUptoCardSaid : Prop := Claim7.holds Tryd.pinned (.plain (OpenSpec.upto materialPartsSpec)) materialPartsUptoCard

/-- THE SECOND FORM's CARD OF 'shipyardlaw15.MaterialRolls'. -/
def materialRollsUptoCard : Claim7 := { stood := { row := materialRollsUptoRow, standIns := [], harness := (true, "05e3a11d4752ecc7da72625ba52e5769528089e29ce13ef4edde3adc06625241"), looks := true }, kinds := [], alts := [], laidByText := true, laidKinds := [.data, .data, .data], laidTests := true, laidLooks := .later }
def MaterialRollsUptoCardSaid : Prop := Claim7.holds Tryd.pinned (.plain (OpenSpec.upto materialRollsSpec)) materialRollsUptoCard
end Rows
end Go.Proofs.YtacbmmnipedpdaaDoor

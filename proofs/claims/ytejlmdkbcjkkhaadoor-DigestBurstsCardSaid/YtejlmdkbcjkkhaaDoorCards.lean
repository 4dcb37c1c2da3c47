/-
  DERIVED. GIVEN WITH THE SEED: THE CARDS: each row of YtejlmdkbcjkkhaaDoorRows.lean that lists a variable, with what it lists TIED to the program's text (the seventh form; the later family's looks); each row that meets fmt, with fmt's text TOLD by the authors' own Lean function (tested against real Go, not proved from fmt's source: count such statements apart). THE CARD IS WHAT COUNTS. Prove the row's statement (the work); the ties are given (YtejlmdkbcjkkhaaDoorTie.lean); close each card by the builder's one call (the guide's Derived/Test/ToyasCard.lean, 'card_holds'). Laid BY PROGRAM, IN A SANDBOX (cutbox-door.mjs). By AI agents, Wed Nov 11 2026. No macro, syntax, notation, axiom, sorry.
-/
import Derived.Test.YtejlmdkbcjkkhaaDoorRows
import GoSem.ClaimSeven
namespace Go.Proofs.YtejlmdkbcjkkhaaDoor
namespace Rows

/-- THE TIED CARD OF 'shipyardlaw06.DigestCrcs'. -/
def digestCrcsCard : Claim7 := { stood := { row := digestCrcsRow, standIns := [], harness := (true, "2cd6e2e0993729623650e4b3b20706e3f3c8be71ad6afb3968fdd517e181ca01"), looks := false }, kinds := [], alts := [], laidByText := true, laidKinds := [.data], laidTests := true, laidLooks := .later }
def DigestCrcsCardSaid : Prop := Claim7.holds Tryd.pinned (.plain (OpenSpec.ofChange digestCrcsSpec)) digestCrcsCard

/-- THE TIED CARD OF 'shipyardlaw06.DigestHashes'. -/
def digestHashesCard : Claim7 := { stood := { row := digestHashesRow, standIns := [], harness := (true, "2cd6e2e0993729623650e4b3b20706e3f3c8be71ad6afb3968fdd517e181ca01"), looks := false }, kinds := [], alts := [], laidByText := true, laidKinds := [.data], laidTests := true, laidLooks := .later }
def DigestHashesCardSaid : Prop := Claim7.holds Tryd.pinned (.plain (OpenSpec.ofChange digestHashesSpec)) digestHashesCard

/-- THE TIED CARD OF 'shipyardlaw06.DigestRoots'. -/
def digestRootsCard : Claim7 := { stood := { row := digestRootsRow, standIns := [], harness := (true, "2cd6e2e0993729623650e4b3b20706e3f3c8be71ad6afb3968fdd517e181ca01"), looks := false }, kinds := [], alts := [], laidByText := true, laidKinds := [.data], laidTests := true, laidLooks := .later }
def DigestRootsCardSaid : Prop := Claim7.holds Tryd.pinned (.plain (OpenSpec.ofChange digestRootsSpec)) digestRootsCard

/-- THE TIED CARD OF 'shipyardlaw06.DigestPaths'. -/
def digestPathsCard : Claim7 := { stood := { row := digestPathsRow, standIns := [], harness := (true, "2cd6e2e0993729623650e4b3b20706e3f3c8be71ad6afb3968fdd517e181ca01"), looks := false }, kinds := [], alts := [], laidByText := true, laidKinds := [.data], laidTests := true, laidLooks := .later }
def DigestPathsCardSaid : Prop := Claim7.holds Tryd.pinned (.plain (OpenSpec.ofChange digestPathsSpec)) digestPathsCard

/-- THE TIED CARD OF 'shipyardlaw06.DigestVerifies'. -/
def digestVerifiesCard : Claim7 := { stood := { row := digestVerifiesRow, standIns := [], harness := (true, "2cd6e2e0993729623650e4b3b20706e3f3c8be71ad6afb3968fdd517e181ca01"), looks := false }, kinds := [], alts := [], laidByText := true, laidKinds := [.data], laidTests := true, laidLooks := .later }
def DigestVerifiesCardSaid : Prop := Claim7.holds Tryd.pinned (.plain (OpenSpec.ofChange digestVerifiesSpec)) digestVerifiesCard

/-- THE TIED CARD OF 'shipyardlaw06.DigestProofs'. -/
def digestProofsCard : Claim7 := { stood := { row := digestProofsRow, standIns := [], harness := (true, "2cd6e2e0993729623650e4b3b20706e3f3c8be71ad6afb3968fdd517e181ca01"), looks := false }, kinds := [], alts := [], laidByText := true, laidKinds := [.data], laidTests := true, laidLooks := .later }
def DigestProofsCardSaid : Prop := Claim7.holds Tryd.pinned (.plain (OpenSpec.ofChange digestProofsSpec)) digestProofsCard

/-- THE TIED CARD OF 'shipyardlaw06.DigestTrees'. -/
def digestTreesCard : Claim7 := { stood := { row := digestTreesRow, standIns := [], harness := (true, "2cd6e2e0993729623650e4b3b20706e3f3c8be71ad6afb3968fdd517e181ca01"), looks := false }, kinds := [], alts := [], laidByText := true, laidKinds := [.data], laidTests := true, laidLooks := .later }
def DigestTreesCardSaid : Prop := Claim7.holds Tryd.pinned (.plain (OpenSpec.ofChange digestTreesSpec)) digestTreesCard

/-- THE TIED CARD OF 'shipyardlaw06.DigestBursts'. -/
def digestBurstsCard : Claim7 := { stood := { row := digestBurstsRow, standIns := [], harness := (true, "2cd6e2e0993729623650e4b3b20706e3f3c8be71ad6afb3968fdd517e181ca01"), looks := false }, kinds := [], alts := [], laidByText := true, laidKinds := [.data], laidTests := true, laidLooks := .later }
def DigestBurstsCardSaid : Prop := Claim7.holds Tryd.pinned (.plain (OpenSpec.ofChange digestBurstsSpec)) digestBurstsCard

/-- THE SECOND FORM's CARD OF 'shipyardlaw06.DigestCrcs'. -/
def digestCrcsUptoCard : Claim7 := { stood := { row := digestCrcsUptoRow, standIns := [], harness := (true, "2cd6e2e0993729623650e4b3b20706e3f3c8be71ad6afb3968fdd517e181ca01"), looks := false }, kinds := [], alts := [], laidByText := true, laidKinds := [.data], laidTests := true, laidLooks := .later }
def DigestCrcsUptoCardSaid : Prop := Claim7.holds Tryd.pinned (.plain (OpenSpec.upto digestCrcsSpec)) digestCrcsUptoCard

/-- THE SECOND FORM's CARD OF 'shipyardlaw06.DigestHashes'. -/
def digestHashesUptoCard : Claim7 := { stood := { row := digestHashesUptoRow, standIns := [], harness := (true, "2cd6e2e0993729623650e4b3b20706e3f3c8be71ad6afb3968fdd517e181ca01"), looks := false }, kinds := [], alts := [], laidByText := true, laidKinds := [.data], laidTests := true, laidLooks := .later }
def DigestHashesUptoCardSaid : Prop := Claim7.holds Tryd.pinned (.plain (OpenSpec.upto digestHashesSpec)) digestHashesUptoCard

/-- THE SECOND FORM's CARD OF 'shipyardlaw06.DigestRoots'. -/
def digestRootsUptoCard : Claim7 := { stood := { row := digestRootsUptoRow, standIns := [], harness := (true, "2cd6e2e0993729623650e4b3b20706e3f3c8be71ad6afb3968fdd517e181ca01"), looks := false }, kinds := [], alts := [], laidByText := true, laidKinds := [.data], laidTests := true, laidLooks := .later }
def DigestRootsUptoCardSaid : Prop := Claim7.holds Tryd.pinned (.plain (OpenSpec.upto digestRootsSpec)) digestRootsUptoCard

/-- THE SECOND FORM's CARD OF 'shipyardlaw06.DigestPaths'. -/
def digestPathsUptoCard : Claim7 := { stood := { row := digestPathsUptoRow, standIns := [], harness := (true, "2cd6e2e0993729623650e4b3b20706e3f3c8be71ad6afb3968fdd517e181ca01"), looks := false }, kinds := [], alts := [], laidByText := true, laidKinds := [.data], laidTests := true, laidLooks := .later }
def DigestPathsUptoCardSaid : Prop := Claim7.holds Tryd.pinned (.plain (OpenSpec.upto digestPathsSpec)) digestPathsUptoCard

/-- THE SECOND FORM's CARD OF 'shipyardlaw06.DigestVerifies'. -/
def digestVerifiesUptoCard : Claim7 := { stood := { row := digestVerifiesUptoRow, standIns := [], harness := (true, "2cd6e2e0993729623650e4b3b20706e3f3c8be71ad6afb3968fdd517e181ca01"), looks := false }, kinds := [], alts := [], laidByText := true, laidKinds := [.data], laidTests := true, laidLooks := .later }
def DigestVerifiesUptoCardSaid : Prop := Claim7.holds Tryd.pinned (.plain (OpenSpec.upto digestVerifiesSpec)) digestVerifiesUptoCard

/-- THE SECOND FORM's CARD OF 'shipyardlaw06.DigestProofs'. -/
def digestProofsUptoCard : Claim7 := { stood := { row := digestProofsUptoRow, standIns := [], harness := (true, "2cd6e2e0993729623650e4b3b20706e3f3c8be71ad6afb3968fdd517e181ca01"), looks := false }, kinds := [], alts := [], laidByText := true, laidKinds := [.data], laidTests := true, laidLooks := .later }
def DigestProofsUptoCardSaid : Prop := Claim7.holds Tryd.pinned (.plain (OpenSpec.upto digestProofsSpec)) digestProofsUptoCard

/-- THE SECOND FORM's CARD OF 'shipyardlaw06.DigestTrees'. -/
def digestTreesUptoCard : Claim7 := { stood := { row := digestTreesUptoRow, standIns := [], harness := (true, "2cd6e2e0993729623650e4b3b20706e3f3c8be71ad6afb3968fdd517e181ca01"), looks := false }, kinds := [], alts := [], laidByText := true, laidKinds := [.data], laidTests := true, laidLooks := .later }
def DigestTreesUptoCardSaid : Prop := Claim7.holds Tryd.pinned (.plain (OpenSpec.upto digestTreesSpec)) digestTreesUptoCard

/-- THE SECOND FORM's CARD OF 'shipyardlaw06.DigestBursts'. -/
def digestBurstsUptoCard : Claim7 := { stood := { row := digestBurstsUptoRow, standIns := [], harness := (true, "2cd6e2e0993729623650e4b3b20706e3f3c8be71ad6afb3968fdd517e181ca01"), looks := false }, kinds := [], alts := [], laidByText := true, laidKinds := [.data], laidTests := true, laidLooks := .later }
def DigestBurstsUptoCardSaid : Prop := Claim7.holds Tryd.pinned (.plain (OpenSpec.upto digestBurstsSpec)) digestBurstsUptoCard
end Rows
end Go.Proofs.YtejlmdkbcjkkhaaDoor

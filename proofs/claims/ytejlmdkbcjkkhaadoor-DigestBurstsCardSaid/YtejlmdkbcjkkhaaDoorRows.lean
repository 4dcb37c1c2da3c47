/-
  NARROWER THAN 'FOR EVERY INPUT', by the rows' own cells (each row's printed sentence says how): DigestCrcs: laid · DigestHashes: laid · DigestRoots: laid · DigestPaths: laid · DigestVerifies: laid · DigestProofs: laid · DigestTrees: laid · DigestBursts: laid.
  DERIVED. THE GIVEN ROWS OF THIS SEAT. 8 by the template 'for every input the law returns true; each argument reads behind the call as it read before'; 0 by the template 'total and deterministic' (their statements: YtejlmdkbcjkkhaaDoorTotals.lean).
  GIVEN WITH THE SEED: the statements are not yours to turn. If you find one false, say at which input.
  Laid BY PROGRAM, IN A SANDBOX (cutbox-rows.mjs): the forced cells as the released guide's own fill.sh prints them over the translation f2064a90cba6a645… (all of the seat's roots in one cut). By AI agents, Wed Nov 11 2026. No macro, syntax, notation, axiom, sorry.
-/
import Derived.Test.YtejlmdkbcjkkhaaDoorChecked
import GoSem.Claim
import GoSem.ClaimJoined
import GoSem.ClaimMapViews
import Derived.JoinedTies
import Derived.KernelRfl
namespace Go.Proofs.YtejlmdkbcjkkhaaDoor
/- THE CELL 'sum', in the pinned program and in every row, IS THE sha256 OF THE DUMP (.gsa) THAT YtejlmdkbcjkkhaaDoorProg.lean LOADS. Nothing in Lean hashes anything: it is a label: what it is worth is what the hold of that sum in a sandbox is worth. -/
noncomputable def Tryd.pinned : Pinned := { name := "ytejlmdkbcjkkhaadoor", sum := "f2064a90cba6a645f7f784ec2bf5abbf0555653663bcbd91088215ecb4eebfec", checked := Tryd.checked }
namespace Rows
def none {H : Type} : Left H := { results := [], args := [] }

/- WHAT THE LISTED PACKAGE-LEVEL VARIABLES READ AS WHEN THE CALL BEGINS. Each datum BY PROGRAM (the guide's laid-datum.mjs) off the statement by which the dump's own 'gosem.cut.vars' lays the variable. In a bare row this is a premise. The card (YtejlmdkbcjkkhaaDoorCards.lean) ties it to the program's text. -/
def laid_shipyard_digest_halves {H : Type} : DataW H := .agg [.lit (.int .u32 0), .lit (.int .u32 274646895), .lit (.int .u32 549293790), .lit (.int .u32 820201905), .lit (.int .u32 1098587580), .lit (.int .u32 1361435347), .lit (.int .u32 1640403810), .lit (.int .u32 1905808397), .lit (.int .u32 2197175160), .lit (.int .u32 2460548119), .lit (.int .u32 2722870694), .lit (.int .u32 2987750089), .lit (.int .u32 3280807620), .lit (.int .u32 3553878443), .lit (.int .u32 3811616794), .lit (.int .u32 4084100981)]

/-- 'shipyardlaw06.DigestCrcs': WHATEVER THE INPUT: true; the input reads as it did. -/
def digestCrcsSpec : ChangeSpec := { name := "digestCrcs", fn := fun _ => fun
  | [d] => { results := [.lit (.bool true)], args := [d] }
  | _ => none }
def digestCrcsRow : OpenClaim := { program := "ytejlmdkbcjkkhaadoor", sum := "f2064a90cba6a645f7f784ec2bf5abbf0555653663bcbd91088215ecb4eebfec", func := "shipyard/shipyardlaw06.DigestCrcs", spec := "digestCrcs", recurses := true, named := ["shipyard/digest.halves"], apart := false, laid := [("shipyard/digest.halves", laid_shipyard_digest_halves)] }
def DigestCrcsSaid : Prop := digestCrcsRow.holds Tryd.pinned (OpenSpec.ofChange digestCrcsSpec)

/-- ITS FALSE NEIGHBOUR: 'it returns false'. Refute it at one input. -/
def digestCrcsWrong : ChangeSpec := { name := "digestCrcs", fn := fun _ => fun
  | [d] => { results := [.lit (.bool false)], args := [d] }
  | _ => none }
def DigestCrcsWrongFalsely : Prop := digestCrcsRow.holds Tryd.pinned (OpenSpec.ofChange digestCrcsWrong)

/-- 'shipyardlaw06.DigestHashes': WHATEVER THE INPUT: true; the input reads as it did. -/
def digestHashesSpec : ChangeSpec := { name := "digestHashes", fn := fun _ => fun
  | [d1, d2, d3] => { results := [.lit (.bool true)], args := [d1, d2, d3] }
  | _ => none }
def digestHashesRow : OpenClaim := { program := "ytejlmdkbcjkkhaadoor", sum := "f2064a90cba6a645f7f784ec2bf5abbf0555653663bcbd91088215ecb4eebfec", func := "shipyard/shipyardlaw06.DigestHashes", spec := "digestHashes", recurses := true, named := ["shipyard/digest.halves"], apart := false, laid := [("shipyard/digest.halves", laid_shipyard_digest_halves)] }
def DigestHashesSaid : Prop := digestHashesRow.holds Tryd.pinned (OpenSpec.ofChange digestHashesSpec)

/-- ITS FALSE NEIGHBOUR: 'it returns false'. Refute it at one input. -/
def digestHashesWrong : ChangeSpec := { name := "digestHashes", fn := fun _ => fun
  | [d1, d2, d3] => { results := [.lit (.bool false)], args := [d1, d2, d3] }
  | _ => none }
def DigestHashesWrongFalsely : Prop := digestHashesRow.holds Tryd.pinned (OpenSpec.ofChange digestHashesWrong)

/-- 'shipyardlaw06.DigestRoots': WHATEVER THE INPUT: true; the input reads as it did. -/
def digestRootsSpec : ChangeSpec := { name := "digestRoots", fn := fun _ => fun
  | [d] => { results := [.lit (.bool true)], args := [d] }
  | _ => none }
def digestRootsRow : OpenClaim := { program := "ytejlmdkbcjkkhaadoor", sum := "f2064a90cba6a645f7f784ec2bf5abbf0555653663bcbd91088215ecb4eebfec", func := "shipyard/shipyardlaw06.DigestRoots", spec := "digestRoots", recurses := true, named := ["shipyard/digest.halves"], apart := false, laid := [("shipyard/digest.halves", laid_shipyard_digest_halves)] }
def DigestRootsSaid : Prop := digestRootsRow.holds Tryd.pinned (OpenSpec.ofChange digestRootsSpec)

/-- ITS FALSE NEIGHBOUR: 'it returns false'. Refute it at one input. -/
def digestRootsWrong : ChangeSpec := { name := "digestRoots", fn := fun _ => fun
  | [d] => { results := [.lit (.bool false)], args := [d] }
  | _ => none }
def DigestRootsWrongFalsely : Prop := digestRootsRow.holds Tryd.pinned (OpenSpec.ofChange digestRootsWrong)

/-- 'shipyardlaw06.DigestPaths': WHATEVER THE INPUT: true; the input reads as it did. -/
def digestPathsSpec : ChangeSpec := { name := "digestPaths", fn := fun _ => fun
  | [d1, d2] => { results := [.lit (.bool true)], args := [d1, d2] }
  | _ => none }
def digestPathsRow : OpenClaim := { program := "ytejlmdkbcjkkhaadoor", sum := "f2064a90cba6a645f7f784ec2bf5abbf0555653663bcbd91088215ecb4eebfec", func := "shipyard/shipyardlaw06.DigestPaths", spec := "digestPaths", recurses := true, named := ["shipyard/digest.halves"], apart := false, laid := [("shipyard/digest.halves", laid_shipyard_digest_halves)] }
def DigestPathsSaid : Prop := digestPathsRow.holds Tryd.pinned (OpenSpec.ofChange digestPathsSpec)

/-- ITS FALSE NEIGHBOUR: 'it returns false'. Refute it at one input. -/
def digestPathsWrong : ChangeSpec := { name := "digestPaths", fn := fun _ => fun
  | [d1, d2] => { results := [.lit (.bool false)], args := [d1, d2] }
  | _ => none }
def DigestPathsWrongFalsely : Prop := digestPathsRow.holds Tryd.pinned (OpenSpec.ofChange digestPathsWrong)

/-- 'shipyardlaw06.DigestVerifies': WHATEVER THE INPUT: true; the input reads as it did. -/
def digestVerifiesSpec : ChangeSpec := { name := "digestVerifies", fn := fun _ => fun
  | [d] => { results := [.lit (.bool true)], args := [d] }
  | _ => none }
def digestVerifiesRow : OpenClaim := { program := "ytejlmdkbcjkkhaadoor", sum := "f2064a90cba6a645f7f784ec2bf5abbf0555653663bcbd91088215ecb4eebfec", func := "shipyard/shipyardlaw06.DigestVerifies", spec := "digestVerifies", recurses := true, named := ["shipyard/digest.halves"], apart := false, laid := [("shipyard/digest.halves", laid_shipyard_digest_halves)] }
def DigestVerifiesSaid : Prop := digestVerifiesRow.holds Tryd.pinned (OpenSpec.ofChange digestVerifiesSpec)

/-- ITS FALSE NEIGHBOUR: 'it returns false'. Refute it at one input. -/
def digestVerifiesWrong : ChangeSpec := { name := "digestVerifies", fn := fun _ => fun
  | [d] => { results := [.lit (.bool false)], args := [d] }
  | _ => none }
def DigestVerifiesWrongFalsely : Prop := digestVerifiesRow.holds Tryd.pinned (OpenSpec.ofChange digestVerifiesWrong)

/-- 'shipyardlaw06.DigestProofs': WHATEVER THE INPUT: true; the input reads as it did. -/
def digestProofsSpec : ChangeSpec := { name := "digestProofs", fn := fun _ => fun
  | [d1, d2] => { results := [.lit (.bool true)], args := [d1, d2] }
  | _ => none }
def digestProofsRow : OpenClaim := { program := "ytejlmdkbcjkkhaadoor", sum := "f2064a90cba6a645f7f784ec2bf5abbf0555653663bcbd91088215ecb4eebfec", func := "shipyard/shipyardlaw06.DigestProofs", spec := "digestProofs", recurses := true, named := ["shipyard/digest.halves"], apart := false, laid := [("shipyard/digest.halves", laid_shipyard_digest_halves)] }
def DigestProofsSaid : Prop := digestProofsRow.holds Tryd.pinned (OpenSpec.ofChange digestProofsSpec)

/-- ITS FALSE NEIGHBOUR: 'it returns false'. Refute it at one input. -/
def digestProofsWrong : ChangeSpec := { name := "digestProofs", fn := fun _ => fun
  | [d1, d2] => { results := [.lit (.bool false)], args := [d1, d2] }
  | _ => none }
def DigestProofsWrongFalsely : Prop := digestProofsRow.holds Tryd.pinned (OpenSpec.ofChange digestProofsWrong)

/-- 'shipyardlaw06.DigestTrees': WHATEVER THE INPUT: true; the input reads as it did. -/
def digestTreesSpec : ChangeSpec := { name := "digestTrees", fn := fun _ => fun
  | [d1, d2] => { results := [.lit (.bool true)], args := [d1, d2] }
  | _ => none }
def digestTreesRow : OpenClaim := { program := "ytejlmdkbcjkkhaadoor", sum := "f2064a90cba6a645f7f784ec2bf5abbf0555653663bcbd91088215ecb4eebfec", func := "shipyard/shipyardlaw06.DigestTrees", spec := "digestTrees", recurses := true, named := ["shipyard/digest.halves"], apart := false, laid := [("shipyard/digest.halves", laid_shipyard_digest_halves)] }
def DigestTreesSaid : Prop := digestTreesRow.holds Tryd.pinned (OpenSpec.ofChange digestTreesSpec)

/-- ITS FALSE NEIGHBOUR: 'it returns false'. Refute it at one input. -/
def digestTreesWrong : ChangeSpec := { name := "digestTrees", fn := fun _ => fun
  | [d1, d2] => { results := [.lit (.bool false)], args := [d1, d2] }
  | _ => none }
def DigestTreesWrongFalsely : Prop := digestTreesRow.holds Tryd.pinned (OpenSpec.ofChange digestTreesWrong)

/-- 'shipyardlaw06.DigestBursts': WHATEVER THE INPUT: true; the input reads as it did. -/
def digestBurstsSpec : ChangeSpec := { name := "digestBursts", fn := fun _ => fun
  | [d1, d2] => { results := [.lit (.bool true)], args := [d1, d2] }
  | _ => none }
def digestBurstsRow : OpenClaim := { program := "ytejlmdkbcjkkhaadoor", sum := "f2064a90cba6a645f7f784ec2bf5abbf0555653663bcbd91088215ecb4eebfec", func := "shipyard/shipyardlaw06.DigestBursts", spec := "digestBursts", recurses := true, named := ["shipyard/digest.halves"], apart := false, laid := [("shipyard/digest.halves", laid_shipyard_digest_halves)] }
def DigestBurstsSaid : Prop := digestBurstsRow.holds Tryd.pinned (OpenSpec.ofChange digestBurstsSpec)

/-- ITS FALSE NEIGHBOUR: 'it returns false'. Refute it at one input. -/
def digestBurstsWrong : ChangeSpec := { name := "digestBursts", fn := fun _ => fun
  | [d1, d2] => { results := [.lit (.bool false)], args := [d1, d2] }
  | _ => none }
def DigestBurstsWrongFalsely : Prop := digestBurstsRow.holds Tryd.pinned (OpenSpec.ofChange digestBurstsWrong)

/- THE SECOND FORM. 'bulk': how many values and letters a reading holds, each counted each time it is reached (what is shared counts as often as it is met; a slice's spare places count too). A statement '..UptoSaid' is the law's where the arguments, and the package variables that the reading takes, are together of bulk at most 1048576: NARROWER than '..Said'. Prove '..Said' where nothing that the law and all that it calls make is longer than what came in: it says more and counts as full. Else prove '..UptoSaid'. A law counts once. -/
mutual
def uptoBulk {H : Type} : DataW H → Nat
  | .lit (.string bytes) => bytes.length + 1
  | .lit _ => 1
  | .nil => 1
  | .ptr d => uptoBulk d + 1
  | .slice elems spare => uptoBulkAll elems + uptoBulkAll spare + 1
  | .agg parts => uptoBulkAll parts + 1
  | .iface _ d => uptoBulk d + 1
  | .map entries => uptoBulkEntries entries + 1
  | .held _ => 1
def uptoBulkAll {H : Type} : List (DataW H) → Nat
  | [] => 0
  | d :: r => uptoBulk d + uptoBulkAll r
def uptoBulkEntries {H : Type} : List (Lit × DataW H) → Nat
  | [] => 0
  | x :: r => uptoBulkEntry x + uptoBulkEntries r
def uptoBulkEntry {H : Type} : Lit × DataW H → Nat
  | (.string bytes, d) => bytes.length + uptoBulk d + 1
  | (_, d) => uptoBulk d + 1
 end
def uptoSmall : (H : Type) → List (DataW H) → Bool := fun _ ds => decide (uptoBulkAll ds ≤ 1048576)
def OpenSpec.upto (s : _root_.Go.ChangeSpec) : _root_.Go.OpenSpec := { _root_.Go.OpenSpec.ofChange s with cond := some uptoSmall }

/-- 'shipyardlaw06.DigestCrcs', WHERE WHAT IT READS IS OF BULK AT MOST 1048576: true; the input reads as it did. -/
def digestCrcsUptoRow : OpenClaim := { program := "ytejlmdkbcjkkhaadoor", sum := "f2064a90cba6a645f7f784ec2bf5abbf0555653663bcbd91088215ecb4eebfec", func := "shipyard/shipyardlaw06.DigestCrcs", spec := "digestCrcs", recurses := true, named := ["shipyard/digest.halves"], apart := false, laid := [("shipyard/digest.halves", laid_shipyard_digest_halves)], narrowed := true }
def DigestCrcsUptoSaid : Prop := digestCrcsUptoRow.holds Tryd.pinned (OpenSpec.upto digestCrcsSpec)

/-- 'shipyardlaw06.DigestHashes', WHERE WHAT IT READS IS OF BULK AT MOST 1048576: true; the input reads as it did. -/
def digestHashesUptoRow : OpenClaim := { program := "ytejlmdkbcjkkhaadoor", sum := "f2064a90cba6a645f7f784ec2bf5abbf0555653663bcbd91088215ecb4eebfec", func := "shipyard/shipyardlaw06.DigestHashes", spec := "digestHashes", recurses := true, named := ["shipyard/digest.halves"], apart := false, laid := [("shipyard/digest.halves", laid_shipyard_digest_halves)], narrowed := true }
def DigestHashesUptoSaid : Prop := digestHashesUptoRow.holds Tryd.pinned (OpenSpec.upto digestHashesSpec)

/-- 'shipyardlaw06.DigestRoots', WHERE WHAT IT READS IS OF BULK AT MOST 1048576: true; the input reads as it did. -/
def digestRootsUptoRow : OpenClaim := { program := "ytejlmdkbcjkkhaadoor", sum := "f2064a90cba6a645f7f784ec2bf5abbf0555653663bcbd91088215ecb4eebfec", func := "shipyard/shipyardlaw06.DigestRoots", spec := "digestRoots", recurses := true, named := ["shipyard/digest.halves"], apart := false, laid := [("shipyard/digest.halves", laid_shipyard_digest_halves)], narrowed := true }
def DigestRootsUptoSaid : Prop := digestRootsUptoRow.holds Tryd.pinned (OpenSpec.upto digestRootsSpec)

/-- 'shipyardlaw06.DigestPaths', WHERE WHAT IT READS IS OF BULK AT MOST 1048576: true; the input reads as it did. -/
def digestPathsUptoRow : OpenClaim := { program := "ytejlmdkbcjkkhaadoor", sum := "f2064a90cba6a645f7f784ec2bf5abbf0555653663bcbd91088215ecb4eebfec", func := "shipyard/shipyardlaw06.DigestPaths", spec := "digestPaths", recurses := true, named := ["shipyard/digest.halves"], apart := false, laid := [("shipyard/digest.halves", laid_shipyard_digest_halves)], narrowed := true }
def DigestPathsUptoSaid : Prop := digestPathsUptoRow.holds Tryd.pinned (OpenSpec.upto digestPathsSpec)

/-- 'shipyardlaw06.DigestVerifies', WHERE WHAT IT READS IS OF BULK AT MOST 1048576: true; the input reads as it did. -/
def digestVerifiesUptoRow : OpenClaim := { program := "ytejlmdkbcjkkhaadoor", sum := "f2064a90cba6a645f7f784ec2bf5abbf0555653663bcbd91088215ecb4eebfec", func := "shipyard/shipyardlaw06.DigestVerifies", spec := "digestVerifies", recurses := true, named := ["shipyard/digest.halves"], apart := false, laid := [("shipyard/digest.halves", laid_shipyard_digest_halves)], narrowed := true }
def DigestVerifiesUptoSaid : Prop := digestVerifiesUptoRow.holds Tryd.pinned (OpenSpec.upto digestVerifiesSpec)

/-- 'shipyardlaw06.DigestProofs', WHERE WHAT IT READS IS OF BULK AT MOST 1048576: true; the input reads as it did. -/
def digestProofsUptoRow : OpenClaim := { program := "ytejlmdkbcjkkhaadoor", sum := "f2064a90cba6a645f7f784ec2bf5abbf0555653663bcbd91088215ecb4eebfec", func := "shipyard/shipyardlaw06.DigestProofs", spec := "digestProofs", recurses := true, named := ["shipyard/digest.halves"], apart := false, laid := [("shipyard/digest.halves", laid_shipyard_digest_halves)], narrowed := true }
def DigestProofsUptoSaid : Prop := digestProofsUptoRow.holds Tryd.pinned (OpenSpec.upto digestProofsSpec)

/-- 'shipyardlaw06.DigestTrees', WHERE WHAT IT READS IS OF BULK AT MOST 1048576: true; the input reads as it did. -/
def digestTreesUptoRow : OpenClaim := { program := "ytejlmdkbcjkkhaadoor", sum := "f2064a90cba6a645f7f784ec2bf5abbf0555653663bcbd91088215ecb4eebfec", func := "shipyard/shipyardlaw06.DigestTrees", spec := "digestTrees", recurses := true, named := ["shipyard/digest.halves"], apart := false, laid := [("shipyard/digest.halves", laid_shipyard_digest_halves)], narrowed := true }
def DigestTreesUptoSaid : Prop := digestTreesUptoRow.holds Tryd.pinned (OpenSpec.upto digestTreesSpec)

/-- 'shipyardlaw06.DigestBursts', WHERE WHAT IT READS IS OF BULK AT MOST 1048576: true; the input reads as it did. -/
def digestBurstsUptoRow : OpenClaim := { program := "ytejlmdkbcjkkhaadoor", sum := "f2064a90cba6a645f7f784ec2bf5abbf0555653663bcbd91088215ecb4eebfec", func := "shipyard/shipyardlaw06.DigestBursts", spec := "digestBursts", recurses := true, named := ["shipyard/digest.halves"], apart := false, laid := [("shipyard/digest.halves", laid_shipyard_digest_halves)], narrowed := true }
def DigestBurstsUptoSaid : Prop := digestBurstsUptoRow.holds Tryd.pinned (OpenSpec.upto digestBurstsSpec)

end Rows
end Go.Proofs.YtejlmdkbcjkkhaaDoor

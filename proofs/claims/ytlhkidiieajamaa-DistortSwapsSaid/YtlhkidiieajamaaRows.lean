/-
  No cell of these rows narrows 'for every input' (looked for: loops, veiled, ifaces, maps, wideKeys, modest, calm, conditions, laid).
  DERIVED. THE GIVEN ROWS OF THIS SEAT. 6 by the template 'for every input the law returns true; each argument reads behind the call as it read before'; 0 by the template 'total and deterministic' (their statements: YtlhkidiieajamaaTotals.lean).
  GIVEN WITH THE SEED: the statements are not yours to turn. If you find one false, say at which input.
  Laid BY PROGRAM, IN A SANDBOX (cutbox-rows.mjs): the forced cells as the released guide's own fill.sh prints them over the translation 0115277a86d0b17e… (all of the seat's roots in one cut). By AI agents, Wed Nov 11 2026. No macro, syntax, notation, axiom, sorry.
-/
import Derived.Test.YtlhkidiieajamaaChecked
import GoSem.Claim
import GoSem.ClaimJoined
import GoSem.ClaimMapViews
import Derived.JoinedTies
import Derived.KernelRfl
namespace Go.Proofs.Ytlhkidiieajamaa
/- THE CELL 'sum', in the pinned program and in every row, IS THE sha256 OF THE DUMP (.gsa) THAT YtlhkidiieajamaaProg.lean LOADS. Nothing in Lean hashes anything: it is a label: what it is worth is what the hold of that sum in a sandbox is worth. -/
noncomputable def Try.pinned : Pinned := { name := "ytlhkidiieajamaa", sum := "0115277a86d0b17ef8a65341fe5eb3fac136eb86356c5a7b5e4e0b68dc27a306", checked := Try.checked }
namespace Rows
def none {H : Type} : Left H := { results := [], args := [] }

/-- 'shipyardlaw33.DistortRuns': WHATEVER THE INPUT: true; the input reads as it did. -/
def distortRunsSpec : ChangeSpec := { name := "distortRuns", fn := fun _ => fun
  | [d1, d2, d3] => { results := [.lit (.bool true)], args := [d1, d2, d3] }
  | _ => none }
def distortRunsRow : OpenClaim := { program := "ytlhkidiieajamaa", sum := "0115277a86d0b17ef8a65341fe5eb3fac136eb86356c5a7b5e4e0b68dc27a306", func := "shipyard/shipyardlaw33.DistortRuns", spec := "distortRuns", inPlace := ["math/bits.Add64"], unfollowed := true, recurses := true, apart := false }
def DistortRunsSaid : Prop := distortRunsRow.holds Try.pinned (OpenSpec.ofChange distortRunsSpec)

/-- ITS FALSE NEIGHBOUR: 'it returns false'. Refute it at one input. -/
def distortRunsWrong : ChangeSpec := { name := "distortRuns", fn := fun _ => fun
  | [d1, d2, d3] => { results := [.lit (.bool false)], args := [d1, d2, d3] }
  | _ => none }
def DistortRunsWrongFalsely : Prop := distortRunsRow.holds Try.pinned (OpenSpec.ofChange distortRunsWrong)

/-- 'shipyardlaw33.DistortOffsets': WHATEVER THE INPUT: true; the input reads as it did. -/
def distortOffsetsSpec : ChangeSpec := { name := "distortOffsets", fn := fun _ => fun
  | [d1, d2, d3] => { results := [.lit (.bool true)], args := [d1, d2, d3] }
  | _ => none }
def distortOffsetsRow : OpenClaim := { program := "ytlhkidiieajamaa", sum := "0115277a86d0b17ef8a65341fe5eb3fac136eb86356c5a7b5e4e0b68dc27a306", func := "shipyard/shipyardlaw33.DistortOffsets", spec := "distortOffsets", inPlace := ["math/bits.Add64"], unfollowed := true, recurses := true, apart := false }
def DistortOffsetsSaid : Prop := distortOffsetsRow.holds Try.pinned (OpenSpec.ofChange distortOffsetsSpec)

/-- ITS FALSE NEIGHBOUR: 'it returns false'. Refute it at one input. -/
def distortOffsetsWrong : ChangeSpec := { name := "distortOffsets", fn := fun _ => fun
  | [d1, d2, d3] => { results := [.lit (.bool false)], args := [d1, d2, d3] }
  | _ => none }
def DistortOffsetsWrongFalsely : Prop := distortOffsetsRow.holds Try.pinned (OpenSpec.ofChange distortOffsetsWrong)

/-- 'shipyardlaw33.DistortBounds': WHATEVER THE INPUT: true; the input reads as it did. -/
def distortBoundsSpec : ChangeSpec := { name := "distortBounds", fn := fun _ => fun
  | [d1, d2, d3] => { results := [.lit (.bool true)], args := [d1, d2, d3] }
  | _ => none }
def distortBoundsRow : OpenClaim := { program := "ytlhkidiieajamaa", sum := "0115277a86d0b17ef8a65341fe5eb3fac136eb86356c5a7b5e4e0b68dc27a306", func := "shipyard/shipyardlaw33.DistortBounds", spec := "distortBounds", inPlace := ["math/bits.Add64"], unfollowed := true, recurses := true, apart := false }
def DistortBoundsSaid : Prop := distortBoundsRow.holds Try.pinned (OpenSpec.ofChange distortBoundsSpec)

/-- ITS FALSE NEIGHBOUR: 'it returns false'. Refute it at one input. -/
def distortBoundsWrong : ChangeSpec := { name := "distortBounds", fn := fun _ => fun
  | [d1, d2, d3] => { results := [.lit (.bool false)], args := [d1, d2, d3] }
  | _ => none }
def DistortBoundsWrongFalsely : Prop := distortBoundsRow.holds Try.pinned (OpenSpec.ofChange distortBoundsWrong)

/-- 'shipyardlaw33.DistortMirror': WHATEVER THE INPUT: true; the input reads as it did. -/
def distortMirrorSpec : ChangeSpec := { name := "distortMirror", fn := fun _ => fun
  | [d1, d2, d3] => { results := [.lit (.bool true)], args := [d1, d2, d3] }
  | _ => none }
def distortMirrorRow : OpenClaim := { program := "ytlhkidiieajamaa", sum := "0115277a86d0b17ef8a65341fe5eb3fac136eb86356c5a7b5e4e0b68dc27a306", func := "shipyard/shipyardlaw33.DistortMirror", spec := "distortMirror", inPlace := ["math/bits.Add64"], unfollowed := true, recurses := true, apart := false }
def DistortMirrorSaid : Prop := distortMirrorRow.holds Try.pinned (OpenSpec.ofChange distortMirrorSpec)

/-- ITS FALSE NEIGHBOUR: 'it returns false'. Refute it at one input. -/
def distortMirrorWrong : ChangeSpec := { name := "distortMirror", fn := fun _ => fun
  | [d1, d2, d3] => { results := [.lit (.bool false)], args := [d1, d2, d3] }
  | _ => none }
def DistortMirrorWrongFalsely : Prop := distortMirrorRow.holds Try.pinned (OpenSpec.ofChange distortMirrorWrong)

/-- 'shipyardlaw33.DistortSwaps': WHATEVER THE INPUT: true; the input reads as it did. -/
def distortSwapsSpec : ChangeSpec := { name := "distortSwaps", fn := fun _ => fun
  | [d1, d2, d3] => { results := [.lit (.bool true)], args := [d1, d2, d3] }
  | _ => none }
def distortSwapsRow : OpenClaim := { program := "ytlhkidiieajamaa", sum := "0115277a86d0b17ef8a65341fe5eb3fac136eb86356c5a7b5e4e0b68dc27a306", func := "shipyard/shipyardlaw33.DistortSwaps", spec := "distortSwaps", inPlace := ["math/bits.Add64"], unfollowed := true, recurses := true, apart := false }
def DistortSwapsSaid : Prop := distortSwapsRow.holds Try.pinned (OpenSpec.ofChange distortSwapsSpec)

/-- ITS FALSE NEIGHBOUR: 'it returns false'. Refute it at one input. -/
def distortSwapsWrong : ChangeSpec := { name := "distortSwaps", fn := fun _ => fun
  | [d1, d2, d3] => { results := [.lit (.bool false)], args := [d1, d2, d3] }
  | _ => none }
def DistortSwapsWrongFalsely : Prop := distortSwapsRow.holds Try.pinned (OpenSpec.ofChange distortSwapsWrong)

/-- 'shipyardlaw33.DistortSums': WHATEVER THE INPUT: true; the input reads as it did. -/
def distortSumsSpec : ChangeSpec := { name := "distortSums", fn := fun _ => fun
  | [d1, d2, d3] => { results := [.lit (.bool true)], args := [d1, d2, d3] }
  | _ => none }
def distortSumsRow : OpenClaim := { program := "ytlhkidiieajamaa", sum := "0115277a86d0b17ef8a65341fe5eb3fac136eb86356c5a7b5e4e0b68dc27a306", func := "shipyard/shipyardlaw33.DistortSums", spec := "distortSums", inPlace := ["math/bits.Add64"], unfollowed := true, recurses := true, apart := false }
def DistortSumsSaid : Prop := distortSumsRow.holds Try.pinned (OpenSpec.ofChange distortSumsSpec)

/-- ITS FALSE NEIGHBOUR: 'it returns false'. Refute it at one input. -/
def distortSumsWrong : ChangeSpec := { name := "distortSums", fn := fun _ => fun
  | [d1, d2, d3] => { results := [.lit (.bool false)], args := [d1, d2, d3] }
  | _ => none }
def DistortSumsWrongFalsely : Prop := distortSumsRow.holds Try.pinned (OpenSpec.ofChange distortSumsWrong)

/- THE SECOND FORM. 'bulk': how many values and letters a reading holds, each counted each time it is reached (what is shared counts as often as it is met; a slice's spare places count too). A statement '..UptoSaid' is the law's where the arguments, and the package variables that the reading takes, are together of bulk at most 1048576: NARROWER than '..Said'. Prove '..Said' where nothing that the law and all that it calls make is longer than what came in: it says more and counts as full. Else prove '..UptoSaid'. A law counts once. -/
mutual
def uptoBulk {H : Type} : DataW H → Nat
  | .lit (.string bytes) => bytes.length + 1
  | .lit _ => 1
  | .nil => 1
  | .ptr d => uptoBulk d + 1
  | .slice elems spare => uptoBulkAll elems + uptoBulkAll spare + 1
  | .agg parts => uptoBulkAll parts + 1
  | .iface _ d => uptoBulk d + 1
  | .map entries => uptoBulkEntries entries + 1
  | .held _ => 1
def uptoBulkAll {H : Type} : List (DataW H) → Nat
  | [] => 0
  | d :: r => uptoBulk d + uptoBulkAll r
def uptoBulkEntries {H : Type} : List (Lit × DataW H) → Nat
  | [] => 0
  | x :: r => uptoBulkEntry x + uptoBulkEntries r
def uptoBulkEntry {H : Type} : Lit × DataW H → Nat
  | (.string bytes, d) => bytes.length + uptoBulk d + 1
  | (_, d) => uptoBulk d + 1
 end
def uptoSmall : (H : Type) → List (DataW H) → Bool := fun _ ds => decide (uptoBulkAll ds ≤ 1048576)
def OpenSpec.upto (s : _root_.Go.ChangeSpec) : _root_.Go.OpenSpec := { _root_.Go.OpenSpec.ofChange s with cond := some uptoSmall }

/-- 'shipyardlaw33.DistortRuns', WHERE WHAT IT READS IS OF BULK AT MOST 1048576: true; the input reads as it did. -/
def distortRunsUptoRow : OpenClaim := { program := "ytlhkidiieajamaa", sum := "0115277a86d0b17ef8a65341fe5eb3fac136eb86356c5a7b5e4e0b68dc27a306", func := "shipyard/shipyardlaw33.DistortRuns", spec := "distortRuns", inPlace := ["math/bits.Add64"], unfollowed := true, recurses := true, apart := false, narrowed := true }
def DistortRunsUptoSaid : Prop := distortRunsUptoRow.holds Try.pinned (OpenSpec.upto distortRunsSpec)

/-- 'shipyardlaw33.DistortOffsets', WHERE WHAT IT READS IS OF BULK AT MOST 1048576: true; the input reads as it did. -/
def distortOffsetsUptoRow : OpenClaim := { program := "ytlhkidiieajamaa", sum := "0115277a86d0b17ef8a65341fe5eb3fac136eb86356c5a7b5e4e0b68dc27a306", func := "shipyard/shipyardlaw33.DistortOffsets", spec := "distortOffsets", inPlace := ["math/bits.Add64"], unfollowed := true, recurses := true, apart := false, narrowed := true }
def DistortOffsetsUptoSaid : Prop := distortOffsetsUptoRow.holds Try.pinned (OpenSpec.upto distortOffsetsSpec)

/-- 'shipyardlaw33.DistortBounds', WHERE WHAT IT READS IS OF BULK AT MOST 1048576: true; the input reads as it did. -/
def distortBoundsUptoRow : OpenClaim := { program := "ytlhkidiieajamaa", sum := "0115277a86d0b17ef8a65341fe5eb3fac136eb86356c5a7b5e4e0b68dc27a306", func := "shipyard/shipyardlaw33.DistortBounds", spec := "distortBounds", inPlace := ["math/bits.Add64"], unfollowed := true, recurses := true, apart := false, narrowed := true }
def DistortBoundsUptoSaid : Prop := distortBoundsUptoRow.holds Try.pinned (OpenSpec.upto distortBoundsSpec)

/-- 'shipyardlaw33.DistortMirror', WHERE WHAT IT READS IS OF BULK AT MOST 1048576: true; the input reads as it did. -/
def distortMirrorUptoRow : OpenClaim := { program := "ytlhkidiieajamaa", sum := "0115277a86d0b17ef8a65341fe5eb3fac136eb86356c5a7b5e4e0b68dc27a306", func := "shipyard/shipyardlaw33.DistortMirror", spec := "distortMirror", inPlace := ["math/bits.Add64"], unfollowed := true, recurses := true, apart := false, narrowed := true }
def DistortMirrorUptoSaid : Prop := distortMirrorUptoRow.holds Try.pinned (OpenSpec.upto distortMirrorSpec)

/-- 'shipyardlaw33.DistortSwaps', WHERE WHAT IT READS IS OF BULK AT MOST 1048576: true; the input reads as it did. -/
def distortSwapsUptoRow : OpenClaim := { program := "ytlhkidiieajamaa", sum := "0115277a86d0b17ef8a65341fe5eb3fac136eb86356c5a7b5e4e0b68dc27a306", func := "shipyard/shipyardlaw33.DistortSwaps", spec := "distortSwaps", inPlace := ["math/bits.Add64"], unfollowed := true, recurses := true, apart := false, narrowed := true }
def DistortSwapsUptoSaid : Prop := distortSwapsUptoRow.holds Try.pinned (OpenSpec.upto distortSwapsSpec)

/-- 'shipyardlaw33.DistortSums', WHERE WHAT IT READS IS OF BULK AT MOST 1048576: true; the input reads as it did. -/
def distortSumsUptoRow : OpenClaim := { program := "ytlhkidiieajamaa", sum := "0115277a86d0b17ef8a65341fe5eb3fac136eb86356c5a7b5e4e0b68dc27a306", func := "shipyard/shipyardlaw33.DistortSums", spec := "distortSums", inPlace := ["math/bits.Add64"], unfollowed := true, recurses := true, apart := false, narrowed := true }
def DistortSumsUptoSaid : Prop := distortSumsUptoRow.holds Try.pinned (OpenSpec.upto distortSumsSpec)

end Rows
end Go.Proofs.Ytlhkidiieajamaa

/-
  No cell of these rows narrows 'for every input' (looked for: loops, veiled, ifaces, maps, wideKeys, modest, calm, conditions, laid).
  DERIVED. THE GIVEN ROWS OF THIS SEAT. 7 by the template 'for every input the law returns true; each argument reads behind the call as it read before'; 0 by the template 'total and deterministic' (their statements: YtpefmbjaolcapaaTotals.lean).
  GIVEN WITH THE SEED: the statements are not yours to turn. If you find one false, say at which input.
  Laid BY PROGRAM, IN A SANDBOX (cutbox-rows.mjs): the forced cells as the released guide's own fill.sh prints them over the translation 2e171497491b7242… (all of the seat's roots in one cut). By AI agents, Wed Nov 11 2026. No macro, syntax, notation, axiom, sorry.
-/
import Derived.Test.YtpefmbjaolcapaaChecked
import GoSem.Claim
import GoSem.ClaimJoined
import GoSem.ClaimMapViews
import Derived.JoinedTies
import Derived.KernelRfl
namespace Go.Proofs.Ytpefmbjaolcapaa
/- THE CELL 'sum', in the pinned program and in every row, IS THE sha256 OF THE DUMP (.gsa) THAT YtpefmbjaolcapaaProg.lean LOADS. Nothing in Lean hashes anything: it is a label: what it is worth is what the hold of that sum in a sandbox is worth. -/
noncomputable def Try.pinned : Pinned := { name := "ytpefmbjaolcapaa", sum := "2e171497491b72427782d792c58ec8ddaba5e96f4dca846916d2f1f6106cd56e", checked := Try.checked }
namespace Rows
def none {H : Type} : Left H := { results := [], args := [] }

/-- 'shipyardlaw26.TorchContours': WHATEVER THE INPUT: true; the input reads as it did. -/
def torchContoursSpec : ChangeSpec := { name := "torchContours", fn := fun _ => fun
  | [d1, d2] => { results := [.lit (.bool true)], args := [d1, d2] }
  | _ => none }
def torchContoursRow : OpenClaim := { program := "ytpefmbjaolcapaa", sum := "2e171497491b72427782d792c58ec8ddaba5e96f4dca846916d2f1f6106cd56e", func := "shipyard/shipyardlaw26.TorchContours", spec := "torchContours", unfollowed := true, recurses := true, apart := false }
def TorchContoursSaid : Prop := torchContoursRow.holds Try.pinned (OpenSpec.ofChange torchContoursSpec)

/-- ITS FALSE NEIGHBOUR: 'it returns false'. Refute it at one input. -/
def torchContoursWrong : ChangeSpec := { name := "torchContours", fn := fun _ => fun
  | [d1, d2] => { results := [.lit (.bool false)], args := [d1, d2] }
  | _ => none }
def TorchContoursWrongFalsely : Prop := torchContoursRow.holds Try.pinned (OpenSpec.ofChange torchContoursWrong)

/-- 'shipyardlaw26.TorchChecks': WHATEVER THE INPUT: true; the input reads as it did. -/
def torchChecksSpec : ChangeSpec := { name := "torchChecks", fn := fun _ => fun
  | [d1, d2] => { results := [.lit (.bool true)], args := [d1, d2] }
  | _ => none }
def torchChecksRow : OpenClaim := { program := "ytpefmbjaolcapaa", sum := "2e171497491b72427782d792c58ec8ddaba5e96f4dca846916d2f1f6106cd56e", func := "shipyard/shipyardlaw26.TorchChecks", spec := "torchChecks", unfollowed := true, recurses := true, apart := false }
def TorchChecksSaid : Prop := torchChecksRow.holds Try.pinned (OpenSpec.ofChange torchChecksSpec)

/-- ITS FALSE NEIGHBOUR: 'it returns false'. Refute it at one input. -/
def torchChecksWrong : ChangeSpec := { name := "torchChecks", fn := fun _ => fun
  | [d1, d2] => { results := [.lit (.bool false)], args := [d1, d2] }
  | _ => none }
def TorchChecksWrongFalsely : Prop := torchChecksRow.holds Try.pinned (OpenSpec.ofChange torchChecksWrong)

/-- 'shipyardlaw26.TorchMany': WHATEVER THE INPUT: true; the input reads as it did. -/
def torchManySpec : ChangeSpec := { name := "torchMany", fn := fun _ => fun
  | [d1, d2] => { results := [.lit (.bool true)], args := [d1, d2] }
  | _ => none }
def torchManyRow : OpenClaim := { program := "ytpefmbjaolcapaa", sum := "2e171497491b72427782d792c58ec8ddaba5e96f4dca846916d2f1f6106cd56e", func := "shipyard/shipyardlaw26.TorchMany", spec := "torchMany", unfollowed := true, recurses := true, apart := false }
def TorchManySaid : Prop := torchManyRow.holds Try.pinned (OpenSpec.ofChange torchManySpec)

/-- ITS FALSE NEIGHBOUR: 'it returns false'. Refute it at one input. -/
def torchManyWrong : ChangeSpec := { name := "torchMany", fn := fun _ => fun
  | [d1, d2] => { results := [.lit (.bool false)], args := [d1, d2] }
  | _ => none }
def TorchManyWrongFalsely : Prop := torchManyRow.holds Try.pinned (OpenSpec.ofChange torchManyWrong)

/-- 'shipyardlaw26.TorchOrders': WHATEVER THE INPUT: true; the input reads as it did. -/
def torchOrdersSpec : ChangeSpec := { name := "torchOrders", fn := fun _ => fun
  | [d] => { results := [.lit (.bool true)], args := [d] }
  | _ => none }
def torchOrdersRow : OpenClaim := { program := "ytpefmbjaolcapaa", sum := "2e171497491b72427782d792c58ec8ddaba5e96f4dca846916d2f1f6106cd56e", func := "shipyard/shipyardlaw26.TorchOrders", spec := "torchOrders", unfollowed := true, recurses := true, apart := false }
def TorchOrdersSaid : Prop := torchOrdersRow.holds Try.pinned (OpenSpec.ofChange torchOrdersSpec)

/-- ITS FALSE NEIGHBOUR: 'it returns false'. Refute it at one input. -/
def torchOrdersWrong : ChangeSpec := { name := "torchOrders", fn := fun _ => fun
  | [d] => { results := [.lit (.bool false)], args := [d] }
  | _ => none }
def TorchOrdersWrongFalsely : Prop := torchOrdersRow.holds Try.pinned (OpenSpec.ofChange torchOrdersWrong)

/-- 'shipyardlaw26.TorchBest': WHATEVER THE INPUT: true; the input reads as it did. -/
def torchBestSpec : ChangeSpec := { name := "torchBest", fn := fun _ => fun
  | [d1, d2] => { results := [.lit (.bool true)], args := [d1, d2] }
  | _ => none }
def torchBestRow : OpenClaim := { program := "ytpefmbjaolcapaa", sum := "2e171497491b72427782d792c58ec8ddaba5e96f4dca846916d2f1f6106cd56e", func := "shipyard/shipyardlaw26.TorchBest", spec := "torchBest", unfollowed := true, recurses := true, apart := false }
def TorchBestSaid : Prop := torchBestRow.holds Try.pinned (OpenSpec.ofChange torchBestSpec)

/-- ITS FALSE NEIGHBOUR: 'it returns false'. Refute it at one input. -/
def torchBestWrong : ChangeSpec := { name := "torchBest", fn := fun _ => fun
  | [d1, d2] => { results := [.lit (.bool false)], args := [d1, d2] }
  | _ => none }
def TorchBestWrongFalsely : Prop := torchBestRow.holds Try.pinned (OpenSpec.ofChange torchBestWrong)

/-- 'shipyardlaw26.TorchParts': WHATEVER THE INPUT: true; the input reads as it did. -/
def torchPartsSpec : ChangeSpec := { name := "torchParts", fn := fun _ => fun
  | [d] => { results := [.lit (.bool true)], args := [d] }
  | _ => none }
def torchPartsRow : OpenClaim := { program := "ytpefmbjaolcapaa", sum := "2e171497491b72427782d792c58ec8ddaba5e96f4dca846916d2f1f6106cd56e", func := "shipyard/shipyardlaw26.TorchParts", spec := "torchParts", unfollowed := true, recurses := true, apart := false }
def TorchPartsSaid : Prop := torchPartsRow.holds Try.pinned (OpenSpec.ofChange torchPartsSpec)

/-- ITS FALSE NEIGHBOUR: 'it returns false'. Refute it at one input. -/
def torchPartsWrong : ChangeSpec := { name := "torchParts", fn := fun _ => fun
  | [d] => { results := [.lit (.bool false)], args := [d] }
  | _ => none }
def TorchPartsWrongFalsely : Prop := torchPartsRow.holds Try.pinned (OpenSpec.ofChange torchPartsWrong)

/-- 'shipyardlaw26.TorchSwaps': WHATEVER THE INPUT: true; the input reads as it did. -/
def torchSwapsSpec : ChangeSpec := { name := "torchSwaps", fn := fun _ => fun
  | [d1, d2, d3] => { results := [.lit (.bool true)], args := [d1, d2, d3] }
  | _ => none }
def torchSwapsRow : OpenClaim := { program := "ytpefmbjaolcapaa", sum := "2e171497491b72427782d792c58ec8ddaba5e96f4dca846916d2f1f6106cd56e", func := "shipyard/shipyardlaw26.TorchSwaps", spec := "torchSwaps", unfollowed := true, recurses := true, apart := false }
def TorchSwapsSaid : Prop := torchSwapsRow.holds Try.pinned (OpenSpec.ofChange torchSwapsSpec)

/-- ITS FALSE NEIGHBOUR: 'it returns false'. Refute it at one input. -/
def torchSwapsWrong : ChangeSpec := { name := "torchSwaps", fn := fun _ => fun
  | [d1, d2, d3] => { results := [.lit (.bool false)], args := [d1, d2, d3] }
  | _ => none }
def TorchSwapsWrongFalsely : Prop := torchSwapsRow.holds Try.pinned (OpenSpec.ofChange torchSwapsWrong)

/- THE SECOND FORM. 'bulk': how many values and letters a reading holds, each counted each time it is reached (what is shared counts as often as it is met; a slice's spare places count too). A statement '..UptoSaid' is the law's where the arguments, and the package variables that the reading takes, are together of bulk at most 1048576: NARROWER than '..Said'. Prove '..Said' where nothing that the law and all that it calls make is longer than what came in: it says more and counts as full. Else prove '..UptoSaid'. A law counts once. -/
mutual
def uptoBulk {H : Type} : DataW H → Nat
  | .lit (.string bytes) => bytes.length + 1
  | .lit _ => 1
  | .nil => 1
  | .ptr d => uptoBulk d + 1
  | .slice elems spare => uptoBulkAll elems + uptoBulkAll spare + 1
  | .agg parts => uptoBulkAll parts + 1
  | .iface _ d => uptoBulk d + 1
  | .map entries => uptoBulkEntries entries + 1
  | .held _ => 1
def uptoBulkAll {H : Type} : List (DataW H) → Nat
  | [] => 0
  | d :: r => uptoBulk d + uptoBulkAll r
def uptoBulkEntries {H : Type} : List (Lit × DataW H) → Nat
  | [] => 0
  | x :: r => uptoBulkEntry x + uptoBulkEntries r
def uptoBulkEntry {H : Type} : Lit × DataW H → Nat
  | (.string bytes, d) => bytes.length + uptoBulk d + 1
  | (_, d) => uptoBulk d + 1
 end
def uptoSmall : (H : Type) → List (DataW H) → Bool := fun _ ds => decide (uptoBulkAll ds ≤ 1048576)
def OpenSpec.upto (s : _root_.Go.ChangeSpec) : _root_.Go.OpenSpec := { _root_.Go.OpenSpec.ofChange s with cond := some uptoSmall }

/-- 'shipyardlaw26.TorchContours', WHERE WHAT IT READS IS OF BULK AT MOST 1048576: true; the input reads as it did. -/
def torchContoursUptoRow : OpenClaim := { program := "ytpefmbjaolcapaa", sum := "2e171497491b72427782d792c58ec8ddaba5e96f4dca846916d2f1f6106cd56e", func := "shipyard/shipyardlaw26.TorchContours", spec := "torchContours", unfollowed := true, recurses := true, apart := false, narrowed := true }
def TorchContoursUptoSaid : Prop := torchContoursUptoRow.holds Try.pinned (OpenSpec.upto torchContoursSpec)

/-- 'shipyardlaw26.TorchChecks', WHERE WHAT IT READS IS OF BULK AT MOST 1048576: true; the input reads as it did. -/
def torchChecksUptoRow : OpenClaim := { program := "ytpefmbjaolcapaa", sum := "2e171497491b72427782d792c58ec8ddaba5e96f4dca846916d2f1f6106cd56e", func := "shipyard/shipyardlaw26.TorchChecks", spec := "torchChecks", unfollowed := true, recurses := true, apart := false, narrowed := true }
def TorchChecksUptoSaid : Prop := torchChecksUptoRow.holds Try.pinned (OpenSpec.upto torchChecksSpec)

/-- 'shipyardlaw26.TorchMany', WHERE WHAT IT READS IS OF BULK AT MOST 1048576: true; the input reads as it did. -/
def torchManyUptoRow : OpenClaim := { program := "ytpefmbjaolcapaa", sum := "2e171497491b72427782d792c58ec8ddaba5e96f4dca846916d2f1f6106cd56e", func := "shipyard/shipyardlaw26.TorchMany", spec := "torchMany", unfollowed := true, recurses := true, apart := false, narrowed := true }
def TorchManyUptoSaid : Prop := torchManyUptoRow.holds Try.pinned (OpenSpec.upto torchManySpec)

/-- 'shipyardlaw26.TorchOrders', WHERE WHAT IT READS IS OF BULK AT MOST 1048576: true; the input reads as it did. -/
def torchOrdersUptoRow : OpenClaim := { program := "ytpefmbjaolcapaa", sum := "2e171497491b72427782d792c58ec8ddaba5e96f4dca846916d2f1f6106cd56e", func := "shipyard/shipyardlaw26.TorchOrders", spec := "torchOrders", unfollowed := true, recurses := true, apart := false, narrowed := true }
def TorchOrdersUptoSaid : Prop := torchOrdersUptoRow.holds Try.pinned (OpenSpec.upto torchOrdersSpec)

/-- 'shipyardlaw26.TorchBest', WHERE WHAT IT READS IS OF BULK AT MOST 1048576: true; the input reads as it did. -/
def torchBestUptoRow : OpenClaim := { program := "ytpefmbjaolcapaa", sum := "2e171497491b72427782d792c58ec8ddaba5e96f4dca846916d2f1f6106cd56e", func := "shipyard/shipyardlaw26.TorchBest", spec := "torchBest", unfollowed := true, recurses := true, apart := false, narrowed := true }
def TorchBestUptoSaid : Prop := torchBestUptoRow.holds Try.pinned (OpenSpec.upto torchBestSpec)

/-- 'shipyardlaw26.TorchParts', WHERE WHAT IT READS IS OF BULK AT MOST 1048576: true; the input reads as it did. -/
def torchPartsUptoRow : OpenClaim := { program := "ytpefmbjaolcapaa", sum := "2e171497491b72427782d792c58ec8ddaba5e96f4dca846916d2f1f6106cd56e", func := "shipyard/shipyardlaw26.TorchParts", spec := "torchParts", unfollowed := true, recurses := true, apart := false, narrowed := true }
def TorchPartsUptoSaid : Prop := torchPartsUptoRow.holds Try.pinned (OpenSpec.upto torchPartsSpec)

/-- 'shipyardlaw26.TorchSwaps', WHERE WHAT IT READS IS OF BULK AT MOST 1048576: true; the input reads as it did. -/
def torchSwapsUptoRow : OpenClaim := { program := "ytpefmbjaolcapaa", sum := "2e171497491b72427782d792c58ec8ddaba5e96f4dca846916d2f1f6106cd56e", func := "shipyard/shipyardlaw26.TorchSwaps", spec := "torchSwaps", unfollowed := true, recurses := true, apart := false, narrowed := true }
def TorchSwapsUptoSaid : Prop := torchSwapsUptoRow.holds Try.pinned (OpenSpec.upto torchSwapsSpec)

end Rows
end Go.Proofs.Ytpefmbjaolcapaa

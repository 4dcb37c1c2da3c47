/-
  No cell of these rows narrows 'for every input' (looked for: loops, veiled, ifaces, maps, wideKeys, modest, calm, conditions, laid).
  DERIVED. THE GIVEN ROWS OF THIS SEAT. 7 by the template 'for every input the law returns true; each argument reads behind the call as it read before'; 0 by the template 'total and deterministic' (their statements: YtgiphdjblnfjcaaTotals.lean).
  GIVEN WITH THE SEED: the statements are not yours to turn. If you find one false, say at which input.
  Laid BY PROGRAM, IN A SANDBOX (cutbox-rows.mjs): the forced cells as the released guide's own fill.sh prints them over the translation 00c31b6199bb12b1… (all of the seat's roots in one cut). By AI agents, Wed Nov 11 2026. No macro, syntax, notation, axiom, sorry.
-/
import Derived.Test.YtgiphdjblnfjcaaChecked
import GoSem.Claim
import GoSem.ClaimJoined
import GoSem.ClaimMapViews
import Derived.JoinedTies
import Derived.KernelRfl
namespace Go.Proofs.Ytgiphdjblnfjcaa
/- THE CELL 'sum', in the pinned program and in every row, IS THE sha256 OF THE DUMP (.gsa) THAT YtgiphdjblnfjcaaProg.lean LOADS. Nothing in Lean hashes anything: it is a label: what it is worth is what the hold of that sum in a sandbox is worth. -/
noncomputable def Try.pinned : Pinned := { name := "ytgiphdjblnfjcaa", sum := "00c31b6199bb12b152c768eb969df1f1fee0be9feb499e116ba30523ed8df7f6", checked := Try.checked }
namespace Rows
def none {H : Type} : Left H := { results := [], args := [] }

/-- 'shipyardlaw34.WeldseqChecks': WHATEVER THE INPUT: true; the input reads as it did. -/
def weldseqChecksSpec : ChangeSpec := { name := "weldseqChecks", fn := fun _ => fun
  | [d1, d2] => { results := [.lit (.bool true)], args := [d1, d2] }
  | _ => none }
def weldseqChecksRow : OpenClaim := { program := "ytgiphdjblnfjcaa", sum := "00c31b6199bb12b152c768eb969df1f1fee0be9feb499e116ba30523ed8df7f6", func := "shipyard/shipyardlaw34.WeldseqChecks", spec := "weldseqChecks", unfollowed := true, recurses := true, apart := false }
def WeldseqChecksSaid : Prop := weldseqChecksRow.holds Try.pinned (OpenSpec.ofChange weldseqChecksSpec)

/-- ITS FALSE NEIGHBOUR: 'it returns false'. Refute it at one input. -/
def weldseqChecksWrong : ChangeSpec := { name := "weldseqChecks", fn := fun _ => fun
  | [d1, d2] => { results := [.lit (.bool false)], args := [d1, d2] }
  | _ => none }
def WeldseqChecksWrongFalsely : Prop := weldseqChecksRow.holds Try.pinned (OpenSpec.ofChange weldseqChecksWrong)

/-- 'shipyardlaw34.WeldseqGreedy': WHATEVER THE INPUT: true; the input reads as it did. -/
def weldseqGreedySpec : ChangeSpec := { name := "weldseqGreedy", fn := fun _ => fun
  | [d] => { results := [.lit (.bool true)], args := [d] }
  | _ => none }
def weldseqGreedyRow : OpenClaim := { program := "ytgiphdjblnfjcaa", sum := "00c31b6199bb12b152c768eb969df1f1fee0be9feb499e116ba30523ed8df7f6", func := "shipyard/shipyardlaw34.WeldseqGreedy", spec := "weldseqGreedy", unfollowed := true, recurses := true, apart := false }
def WeldseqGreedySaid : Prop := weldseqGreedyRow.holds Try.pinned (OpenSpec.ofChange weldseqGreedySpec)

/-- ITS FALSE NEIGHBOUR: 'it returns false'. Refute it at one input. -/
def weldseqGreedyWrong : ChangeSpec := { name := "weldseqGreedy", fn := fun _ => fun
  | [d] => { results := [.lit (.bool false)], args := [d] }
  | _ => none }
def WeldseqGreedyWrongFalsely : Prop := weldseqGreedyRow.holds Try.pinned (OpenSpec.ofChange weldseqGreedyWrong)

/-- 'shipyardlaw34.WeldseqBests': WHATEVER THE INPUT: true; the input reads as it did. -/
def weldseqBestsSpec : ChangeSpec := { name := "weldseqBests", fn := fun _ => fun
  | [d] => { results := [.lit (.bool true)], args := [d] }
  | _ => none }
def weldseqBestsRow : OpenClaim := { program := "ytgiphdjblnfjcaa", sum := "00c31b6199bb12b152c768eb969df1f1fee0be9feb499e116ba30523ed8df7f6", func := "shipyard/shipyardlaw34.WeldseqBests", spec := "weldseqBests", unfollowed := true, recurses := true, apart := false }
def WeldseqBestsSaid : Prop := weldseqBestsRow.holds Try.pinned (OpenSpec.ofChange weldseqBestsSpec)

/-- ITS FALSE NEIGHBOUR: 'it returns false'. Refute it at one input. -/
def weldseqBestsWrong : ChangeSpec := { name := "weldseqBests", fn := fun _ => fun
  | [d] => { results := [.lit (.bool false)], args := [d] }
  | _ => none }
def WeldseqBestsWrongFalsely : Prop := weldseqBestsRow.holds Try.pinned (OpenSpec.ofChange weldseqBestsWrong)

/-- 'shipyardlaw34.WeldseqPermits': WHATEVER THE INPUT: true; the input reads as it did. -/
def weldseqPermitsSpec : ChangeSpec := { name := "weldseqPermits", fn := fun _ => fun
  | [d] => { results := [.lit (.bool true)], args := [d] }
  | _ => none }
def weldseqPermitsRow : OpenClaim := { program := "ytgiphdjblnfjcaa", sum := "00c31b6199bb12b152c768eb969df1f1fee0be9feb499e116ba30523ed8df7f6", func := "shipyard/shipyardlaw34.WeldseqPermits", spec := "weldseqPermits", unfollowed := true, recurses := true, apart := false }
def WeldseqPermitsSaid : Prop := weldseqPermitsRow.holds Try.pinned (OpenSpec.ofChange weldseqPermitsSpec)

/-- ITS FALSE NEIGHBOUR: 'it returns false'. Refute it at one input. -/
def weldseqPermitsWrong : ChangeSpec := { name := "weldseqPermits", fn := fun _ => fun
  | [d] => { results := [.lit (.bool false)], args := [d] }
  | _ => none }
def WeldseqPermitsWrongFalsely : Prop := weldseqPermitsRow.holds Try.pinned (OpenSpec.ofChange weldseqPermitsWrong)

/-- 'shipyardlaw34.WeldseqFewer': WHATEVER THE INPUT: true; the input reads as it did. -/
def weldseqFewerSpec : ChangeSpec := { name := "weldseqFewer", fn := fun _ => fun
  | [d1, d2] => { results := [.lit (.bool true)], args := [d1, d2] }
  | _ => none }
def weldseqFewerRow : OpenClaim := { program := "ytgiphdjblnfjcaa", sum := "00c31b6199bb12b152c768eb969df1f1fee0be9feb499e116ba30523ed8df7f6", func := "shipyard/shipyardlaw34.WeldseqFewer", spec := "weldseqFewer", unfollowed := true, recurses := true, apart := false }
def WeldseqFewerSaid : Prop := weldseqFewerRow.holds Try.pinned (OpenSpec.ofChange weldseqFewerSpec)

/-- ITS FALSE NEIGHBOUR: 'it returns false'. Refute it at one input. -/
def weldseqFewerWrong : ChangeSpec := { name := "weldseqFewer", fn := fun _ => fun
  | [d1, d2] => { results := [.lit (.bool false)], args := [d1, d2] }
  | _ => none }
def WeldseqFewerWrongFalsely : Prop := weldseqFewerRow.holds Try.pinned (OpenSpec.ofChange weldseqFewerWrong)

/-- 'shipyardlaw34.WeldseqLeast': WHATEVER THE INPUT: true; the input reads as it did. -/
def weldseqLeastSpec : ChangeSpec := { name := "weldseqLeast", fn := fun _ => fun
  | [d1, d2] => { results := [.lit (.bool true)], args := [d1, d2] }
  | _ => none }
def weldseqLeastRow : OpenClaim := { program := "ytgiphdjblnfjcaa", sum := "00c31b6199bb12b152c768eb969df1f1fee0be9feb499e116ba30523ed8df7f6", func := "shipyard/shipyardlaw34.WeldseqLeast", spec := "weldseqLeast", unfollowed := true, recurses := true, apart := false }
def WeldseqLeastSaid : Prop := weldseqLeastRow.holds Try.pinned (OpenSpec.ofChange weldseqLeastSpec)

/-- ITS FALSE NEIGHBOUR: 'it returns false'. Refute it at one input. -/
def weldseqLeastWrong : ChangeSpec := { name := "weldseqLeast", fn := fun _ => fun
  | [d1, d2] => { results := [.lit (.bool false)], args := [d1, d2] }
  | _ => none }
def WeldseqLeastWrongFalsely : Prop := weldseqLeastRow.holds Try.pinned (OpenSpec.ofChange weldseqLeastWrong)

/-- 'shipyardlaw34.WeldseqGreater': WHATEVER THE INPUT: true; the input reads as it did. -/
def weldseqGreaterSpec : ChangeSpec := { name := "weldseqGreater", fn := fun _ => fun
  | [d] => { results := [.lit (.bool true)], args := [d] }
  | _ => none }
def weldseqGreaterRow : OpenClaim := { program := "ytgiphdjblnfjcaa", sum := "00c31b6199bb12b152c768eb969df1f1fee0be9feb499e116ba30523ed8df7f6", func := "shipyard/shipyardlaw34.WeldseqGreater", spec := "weldseqGreater", unfollowed := true, recurses := true, apart := false }
def WeldseqGreaterSaid : Prop := weldseqGreaterRow.holds Try.pinned (OpenSpec.ofChange weldseqGreaterSpec)

/-- ITS FALSE NEIGHBOUR: 'it returns false'. Refute it at one input. -/
def weldseqGreaterWrong : ChangeSpec := { name := "weldseqGreater", fn := fun _ => fun
  | [d] => { results := [.lit (.bool false)], args := [d] }
  | _ => none }
def WeldseqGreaterWrongFalsely : Prop := weldseqGreaterRow.holds Try.pinned (OpenSpec.ofChange weldseqGreaterWrong)

/- THE SECOND FORM. 'bulk': how many values and letters a reading holds, each counted each time it is reached (what is shared counts as often as it is met; a slice's spare places count too). A statement '..UptoSaid' is the law's where the arguments, and the package variables that the reading takes, are together of bulk at most 1048576: NARROWER than '..Said'. Prove '..Said' where nothing that the law and all that it calls make is longer than what came in: it says more and counts as full. Else prove '..UptoSaid'. A law counts once. -/
mutual
def uptoBulk {H : Type} : DataW H → Nat
  | .lit (.string bytes) => bytes.length + 1
  | .lit _ => 1
  | .nil => 1
  | .ptr d => uptoBulk d + 1
  | .slice elems spare => uptoBulkAll elems + uptoBulkAll spare + 1
  | .agg parts => uptoBulkAll parts + 1
  | .iface _ d => uptoBulk d + 1
  | .map entries => uptoBulkEntries entries + 1
  | .held _ => 1
def uptoBulkAll {H : Type} : List (DataW H) → Nat
  | [] => 0
  | d :: r => uptoBulk d + uptoBulkAll r
def uptoBulkEntries {H : Type} : List (Lit × DataW H) → Nat
  | [] => 0
  | x :: r => uptoBulkEntry x + uptoBulkEntries r
def uptoBulkEntry {H : Type} : Lit × DataW H → Nat
  | (.string bytes, d) => bytes.length + uptoBulk d + 1
  | (_, d) => uptoBulk d + 1
 end
def uptoSmall : (H : Type) → List (DataW H) → Bool := fun _ ds => decide (uptoBulkAll ds ≤ 1048576)
def OpenSpec.upto (s : _root_.Go.ChangeSpec) : _root_.Go.OpenSpec := { _root_.Go.OpenSpec.ofChange s with cond := some uptoSmall }

/-- 'shipyardlaw34.WeldseqChecks', WHERE WHAT IT READS IS OF BULK AT MOST 1048576: true; the input reads as it did. -/
def weldseqChecksUptoRow : OpenClaim := { program := "ytgiphdjblnfjcaa", sum := "00c31b6199bb12b152c768eb969df1f1fee0be9feb499e116ba30523ed8df7f6", func := "shipyard/shipyardlaw34.WeldseqChecks", spec := "weldseqChecks", unfollowed := true, recurses := true, apart := false, narrowed := true }
def WeldseqChecksUptoSaid : Prop := weldseqChecksUptoRow.holds Try.pinned (OpenSpec.upto weldseqChecksSpec)

/-- 'shipyardlaw34.WeldseqGreedy', WHERE WHAT IT READS IS OF BULK AT MOST 1048576: true; the input reads as it did. -/
def weldseqGreedyUptoRow : OpenClaim := { program := "ytgiphdjblnfjcaa", sum := "00c31b6199bb12b152c768eb969df1f1fee0be9feb499e116ba30523ed8df7f6", func := "shipyard/shipyardlaw34.WeldseqGreedy", spec := "weldseqGreedy", unfollowed := true, recurses := true, apart := false, narrowed := true }
def WeldseqGreedyUptoSaid : Prop := weldseqGreedyUptoRow.holds Try.pinned (OpenSpec.upto weldseqGreedySpec)

/-- 'shipyardlaw34.WeldseqBests', WHERE WHAT IT READS IS OF BULK AT MOST 1048576: true; the input reads as it did. -/
def weldseqBestsUptoRow : OpenClaim := { program := "ytgiphdjblnfjcaa", sum := "00c31b6199bb12b152c768eb969df1f1fee0be9feb499e116ba30523ed8df7f6", func := "shipyard/shipyardlaw34.WeldseqBests", spec := "weldseqBests", unfollowed := true, recurses := true, apart := false, narrowed := true }
def WeldseqBestsUptoSaid : Prop := weldseqBestsUptoRow.holds Try.pinned (OpenSpec.upto weldseqBestsSpec)

/-- 'shipyardlaw34.WeldseqPermits', WHERE WHAT IT READS IS OF BULK AT MOST 1048576: true; the input reads as it did. -/
def weldseqPermitsUptoRow : OpenClaim := { program := "ytgiphdjblnfjcaa", sum := "00c31b6199bb12b152c768eb969df1f1fee0be9feb499e116ba30523ed8df7f6", func := "shipyard/shipyardlaw34.WeldseqPermits", spec := "weldseqPermits", unfollowed := true, recurses := true, apart := false, narrowed := true }
def WeldseqPermitsUptoSaid : Prop := weldseqPermitsUptoRow.holds Try.pinned (OpenSpec.upto weldseqPermitsSpec)

/-- 'shipyardlaw34.WeldseqFewer', WHERE WHAT IT READS IS OF BULK AT MOST 1048576: true; the input reads as it did. -/
def weldseqFewerUptoRow : OpenClaim := { program := "ytgiphdjblnfjcaa", sum := "00c31b6199bb12b152c768eb969df1f1fee0be9feb499e116ba30523ed8df7f6", func := "shipyard/shipyardlaw34.WeldseqFewer", spec := "weldseqFewer", unfollowed := true, recurses := true, apart := false, narrowed := true }
def WeldseqFewerUptoSaid : Prop := weldseqFewerUptoRow.holds Try.pinned (OpenSpec.upto weldseqFewerSpec)

/-- 'shipyardlaw34.WeldseqLeast', WHERE WHAT IT READS IS OF BULK AT MOST 1048576: true; the input reads as it did. -/
def weldseqLeastUptoRow : OpenClaim := { program := "ytgiphdjblnfjcaa", sum := "00c31b6199bb12b152c768eb969df1f1fee0be9feb499e116ba30523ed8df7f6", func := "shipyard/shipyardlaw34.WeldseqLeast", spec := "weldseqLeast", unfollowed := true, recurses := true, apart := false, narrowed := true }
def WeldseqLeastUptoSaid : Prop := weldseqLeastUptoRow.holds Try.pinned (OpenSpec.upto weldseqLeastSpec)

/-- 'shipyardlaw34.WeldseqGreater', WHERE WHAT IT READS IS OF BULK AT MOST 1048576: true; the input reads as it did. -/
def weldseqGreaterUptoRow : OpenClaim := { program := "ytgiphdjblnfjcaa", sum := "00c31b6199bb12b152c768eb969df1f1fee0be9feb499e116ba30523ed8df7f6", func := "shipyard/shipyardlaw34.WeldseqGreater", spec := "weldseqGreater", unfollowed := true, recurses := true, apart := false, narrowed := true }
def WeldseqGreaterUptoSaid : Prop := weldseqGreaterUptoRow.holds Try.pinned (OpenSpec.upto weldseqGreaterSpec)

end Rows
end Go.Proofs.Ytgiphdjblnfjcaa

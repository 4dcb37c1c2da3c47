/-
  NARROWER THAN 'FOR EVERY INPUT', by the rows' own cells (each row's printed sentence says how): MaterialChecks: laid · MaterialFinds: laid · MaterialTexts: laid · MaterialParses: laid · MaterialBack: laid · MaterialReads: laid · MaterialParts: laid · MaterialRolls: laid.
  DERIVED. THE GIVEN ROWS OF THIS SEAT. 8 by the template 'for every input the law returns true; each argument reads behind the call as it read before'; 0 by the template 'total and deterministic' (their statements: YtacbmmnipedpdaaDoorTotals.lean).
  GIVEN WITH THE SEED: the statements are not yours to turn. If you find one false, say at which input.
  Laid BY PROGRAM, IN A SANDBOX (cutbox-rows.mjs): the forced cells as the released guide's own fill.sh prints them over the translation e82f194c3c847878… (all of the seat's roots in one cut). By AI agents, Wed Nov 11 2026. No macro, syntax, notation, axiom, sorry.
-/
import Derived.Test.YtacbmmnipedpdaaDoorChecked
import GoSem.Claim
import GoSem.ClaimJoined
import GoSem.ClaimMapViews
import Derived.JoinedTies
import Derived.KernelRfl
namespace Go.Proofs.YtacbmmnipedpdaaDoor
/- THE CELL 'sum', in the pinned program and in every row, IS THE sha256 OF THE DUMP (.gsa) THAT YtacbmmnipedpdaaDoorProg.lean LOADS. Nothing in Lean hashes anything: it is a label: what it is worth is what the hold of that sum in a sandbox is worth. -/
noncomputable def Tryd.pinned : Pinned := { name := "ytacbmmnipedpdaadoor", sum := "e82f194c3c847878c512dcbfabbe2866bb7366215c8570a110584fcb689263a9", checked := Tryd.checked }
namespace Rows
def none {H : Type} : Left H := { results := [], args := [] }

/- WHAT THE LISTED PACKAGE-LEVEL VARIABLES READ AS WHEN THE CALL BEGINS. Each datum BY PROGRAM (the guide's laid-datum.mjs) off the statement by which the dump's own 'gosem.cut.vars' lays the variable. In a bare row this is a premise. The card (YtacbmmnipedpdaaDoorCards.lean) ties it to the program's text. -/
def laid_math_bits_deBruijn32tab {H : Type} : DataW H := .agg [.lit (.int .u8 0), .lit (.int .u8 1), .lit (.int .u8 28), .lit (.int .u8 2), .lit (.int .u8 29), .lit (.int .u8 14), .lit (.int .u8 24), .lit (.int .u8 3), .lit (.int .u8 30), .lit (.int .u8 22), .lit (.int .u8 20), .lit (.int .u8 15), .lit (.int .u8 25), .lit (.int .u8 17), .lit (.int .u8 4), .lit (.int .u8 8), .lit (.int .u8 31), .lit (.int .u8 27), .lit (.int .u8 13), .lit (.int .u8 23), .lit (.int .u8 21), .lit (.int .u8 19), .lit (.int .u8 16), .lit (.int .u8 7), .lit (.int .u8 26), .lit (.int .u8 12), .lit (.int .u8 18), .lit (.int .u8 6), .lit (.int .u8 11), .lit (.int .u8 5), .lit (.int .u8 10), .lit (.int .u8 9)]
def laid_math_bits_deBruijn64tab {H : Type} : DataW H := .agg [.lit (.int .u8 0), .lit (.int .u8 1), .lit (.int .u8 56), .lit (.int .u8 2), .lit (.int .u8 57), .lit (.int .u8 49), .lit (.int .u8 28), .lit (.int .u8 3), .lit (.int .u8 61), .lit (.int .u8 58), .lit (.int .u8 42), .lit (.int .u8 50), .lit (.int .u8 38), .lit (.int .u8 29), .lit (.int .u8 17), .lit (.int .u8 4), .lit (.int .u8 62), .lit (.int .u8 47), .lit (.int .u8 59), .lit (.int .u8 36), .lit (.int .u8 45), .lit (.int .u8 43), .lit (.int .u8 51), .lit (.int .u8 22), .lit (.int .u8 53), .lit (.int .u8 39), .lit (.int .u8 33), .lit (.int .u8 30), .lit (.int .u8 24), .lit (.int .u8 18), .lit (.int .u8 12), .lit (.int .u8 5), .lit (.int .u8 63), .lit (.int .u8 55), .lit (.int .u8 48), .lit (.int .u8 27), .lit (.int .u8 60), .lit (.int .u8 41), .lit (.int .u8 37), .lit (.int .u8 16), .lit (.int .u8 46), .lit (.int .u8 35), .lit (.int .u8 44), .lit (.int .u8 21), .lit (.int .u8 52), .lit (.int .u8 32), .lit (.int .u8 23), .lit (.int .u8 11), .lit (.int .u8 54), .lit (.int .u8 26), .lit (.int .u8 40), .lit (.int .u8 15), .lit (.int .u8 34), .lit (.int .u8 20), .lit (.int .u8 31), .lit (.int .u8 10), .lit (.int .u8 25), .lit (.int .u8 14), .lit (.int .u8 19), .lit (.int .u8 9), .lit (.int .u8 13), .lit (.int .u8 8), .lit (.int .u8 7), .lit (.int .u8 6)]
def laid_internal_strconv_uint64pow10 {H : Type} : DataW H := .agg [.lit (.int .u64 1), .lit (.int .u64 10), .lit (.int .u64 100), .lit (.int .u64 1000), .lit (.int .u64 10000), .lit (.int .u64 100000), .lit (.int .u64 1000000), .lit (.int .u64 10000000), .lit (.int .u64 100000000), .lit (.int .u64 1000000000), .lit (.int .u64 10000000000), .lit (.int .u64 100000000000), .lit (.int .u64 1000000000000), .lit (.int .u64 10000000000000), .lit (.int .u64 100000000000000), .lit (.int .u64 1000000000000000), .lit (.int .u64 10000000000000000), .lit (.int .u64 100000000000000000), .lit (.int .u64 1000000000000000000), .lit (.int .u64 10000000000000000000)]

/-- 'shipyardlaw15.MaterialChecks': WHATEVER THE INPUT: true; the input reads as it did. -/
def materialChecksSpec : ChangeSpec := { name := "materialChecks", fn := fun _ => fun
  | [d] => { results := [.lit (.bool true)], args := [d] }
  | _ => none }
def materialChecksRow : OpenClaim := { program := "ytacbmmnipedpdaadoor", sum := "e82f194c3c847878c512dcbfabbe2866bb7366215c8570a110584fcb689263a9", func := "shipyard/shipyardlaw15.MaterialChecks", spec := "materialChecks", inPlace := ["internal/abi.NoEscape", "internal/bytealg.IndexByteString", "internal/bytealg.IndexString"], unfollowed := true, recurses := true, named := ["internal/strconv.uint64pow10", "math/bits.deBruijn32tab", "math/bits.deBruijn64tab", "internal/bytealg.MaxLen"], apart := false, laid := [("math/bits.deBruijn32tab", laid_math_bits_deBruijn32tab), ("math/bits.deBruijn64tab", laid_math_bits_deBruijn64tab), ("internal/strconv.uint64pow10", laid_internal_strconv_uint64pow10)] }
def MaterialChecksSaid : Prop := materialChecksRow.holds Tryd.pinned (OpenSpec.ofChange materialChecksSpec)

/-- ITS FALSE NEIGHBOUR: 'it returns false'. Refute it at one input. -/
def materialChecksWrong : ChangeSpec := { name := "materialChecks", fn := fun _ => fun
  | [d] => { results := [.lit (.bool false)], args := [d] }
  | _ => none }
def MaterialChecksWrongFalsely : Prop := materialChecksRow.holds Tryd.pinned (OpenSpec.ofChange materialChecksWrong)

/-- 'shipyardlaw15.MaterialFinds': WHATEVER THE INPUT: true; the input reads as it did. -/
def materialFindsSpec : ChangeSpec := { name := "materialFinds", fn := fun _ => fun
  | [d1, d2, d3] => { results := [.lit (.bool true)], args := [d1, d2, d3] }
  | _ => none }
def materialFindsRow : OpenClaim := { program := "ytacbmmnipedpdaadoor", sum := "e82f194c3c847878c512dcbfabbe2866bb7366215c8570a110584fcb689263a9", func := "shipyard/shipyardlaw15.MaterialFinds", spec := "materialFinds", inPlace := ["internal/abi.NoEscape", "internal/bytealg.IndexByteString", "internal/bytealg.IndexString"], unfollowed := true, recurses := true, named := ["internal/strconv.uint64pow10", "math/bits.deBruijn32tab", "math/bits.deBruijn64tab", "internal/bytealg.MaxLen"], apart := false, laid := [("math/bits.deBruijn32tab", laid_math_bits_deBruijn32tab), ("math/bits.deBruijn64tab", laid_math_bits_deBruijn64tab), ("internal/strconv.uint64pow10", laid_internal_strconv_uint64pow10)] }
def MaterialFindsSaid : Prop := materialFindsRow.holds Tryd.pinned (OpenSpec.ofChange materialFindsSpec)

/-- ITS FALSE NEIGHBOUR: 'it returns false'. Refute it at one input. -/
def materialFindsWrong : ChangeSpec := { name := "materialFinds", fn := fun _ => fun
  | [d1, d2, d3] => { results := [.lit (.bool false)], args := [d1, d2, d3] }
  | _ => none }
def MaterialFindsWrongFalsely : Prop := materialFindsRow.holds Tryd.pinned (OpenSpec.ofChange materialFindsWrong)

/-- 'shipyardlaw15.MaterialTexts': WHATEVER THE INPUT: true; the input reads as it did. -/
def materialTextsSpec : ChangeSpec := { name := "materialTexts", fn := fun _ => fun
  | [d] => { results := [.lit (.bool true)], args := [d] }
  | _ => none }
def materialTextsRow : OpenClaim := { program := "ytacbmmnipedpdaadoor", sum := "e82f194c3c847878c512dcbfabbe2866bb7366215c8570a110584fcb689263a9", func := "shipyard/shipyardlaw15.MaterialTexts", spec := "materialTexts", inPlace := ["internal/abi.NoEscape", "internal/bytealg.IndexByteString", "internal/bytealg.IndexString"], unfollowed := true, recurses := true, named := ["internal/strconv.uint64pow10", "math/bits.deBruijn32tab", "math/bits.deBruijn64tab", "internal/bytealg.MaxLen"], apart := false, laid := [("math/bits.deBruijn32tab", laid_math_bits_deBruijn32tab), ("math/bits.deBruijn64tab", laid_math_bits_deBruijn64tab), ("internal/strconv.uint64pow10", laid_internal_strconv_uint64pow10)] }
def MaterialTextsSaid : Prop := materialTextsRow.holds Tryd.pinned (OpenSpec.ofChange materialTextsSpec)

/-- ITS FALSE NEIGHBOUR: 'it returns false'. Refute it at one input. -/
def materialTextsWrong : ChangeSpec := { name := "materialTexts", fn := fun _ => fun
  | [d] => { results := [.lit (.bool false)], args := [d] }
  | _ => none }
def MaterialTextsWrongFalsely : Prop := materialTextsRow.holds Tryd.pinned (OpenSpec.ofChange materialTextsWrong)

/-- 'shipyardlaw15.MaterialParses': WHATEVER THE INPUT: true; the input reads as it did. -/
def materialParsesSpec : ChangeSpec := { name := "materialParses", fn := fun _ => fun
  | [d] => { results := [.lit (.bool true)], args := [d] }
  | _ => none }
def materialParsesRow : OpenClaim := { program := "ytacbmmnipedpdaadoor", sum := "e82f194c3c847878c512dcbfabbe2866bb7366215c8570a110584fcb689263a9", func := "shipyard/shipyardlaw15.MaterialParses", spec := "materialParses", inPlace := ["internal/abi.NoEscape", "internal/bytealg.IndexByteString", "internal/bytealg.IndexString"], unfollowed := true, recurses := true, named := ["internal/strconv.uint64pow10", "math/bits.deBruijn32tab", "math/bits.deBruijn64tab", "internal/bytealg.MaxLen"], apart := false, laid := [("math/bits.deBruijn32tab", laid_math_bits_deBruijn32tab), ("math/bits.deBruijn64tab", laid_math_bits_deBruijn64tab), ("internal/strconv.uint64pow10", laid_internal_strconv_uint64pow10)] }
def MaterialParsesSaid : Prop := materialParsesRow.holds Tryd.pinned (OpenSpec.ofChange materialParsesSpec)

/-- ITS FALSE NEIGHBOUR: 'it returns false'. Refute it at one input. -/
def materialParsesWrong : ChangeSpec := { name := "materialParses", fn := fun _ => fun
  | [d] => { results := [.lit (.bool false)], args := [d] }
  | _ => none }
def MaterialParsesWrongFalsely : Prop := materialParsesRow.holds Tryd.pinned (OpenSpec.ofChange materialParsesWrong)

/-- 'shipyardlaw15.MaterialBack': WHATEVER THE INPUT: true; the input reads as it did. -/
def materialBackSpec : ChangeSpec := { name := "materialBack", fn := fun _ => fun
  | [d1, d2] => { results := [.lit (.bool true)], args := [d1, d2] }
  | _ => none }
def materialBackRow : OpenClaim := { program := "ytacbmmnipedpdaadoor", sum := "e82f194c3c847878c512dcbfabbe2866bb7366215c8570a110584fcb689263a9", func := "shipyard/shipyardlaw15.MaterialBack", spec := "materialBack", inPlace := ["internal/abi.NoEscape", "internal/bytealg.IndexByteString", "internal/bytealg.IndexString"], unfollowed := true, recurses := true, named := ["internal/strconv.uint64pow10", "math/bits.deBruijn32tab", "math/bits.deBruijn64tab", "internal/bytealg.MaxLen"], apart := false, laid := [("math/bits.deBruijn32tab", laid_math_bits_deBruijn32tab), ("math/bits.deBruijn64tab", laid_math_bits_deBruijn64tab), ("internal/strconv.uint64pow10", laid_internal_strconv_uint64pow10)] }
def MaterialBackSaid : Prop := materialBackRow.holds Tryd.pinned (OpenSpec.ofChange materialBackSpec)

/-- ITS FALSE NEIGHBOUR: 'it returns false'. Refute it at one input. -/
def materialBackWrong : ChangeSpec := { name := "materialBack", fn := fun _ => fun
  | [d1, d2] => { results := [.lit (.bool false)], args := [d1, d2] }
  | _ => none }
def MaterialBackWrongFalsely : Prop := materialBackRow.holds Tryd.pinned (OpenSpec.ofChange materialBackWrong)

/-- 'shipyardlaw15.MaterialReads': WHATEVER THE INPUT: true; the input reads as it did. -/
def materialReadsSpec : ChangeSpec := { name := "materialReads", fn := fun _ => fun
  | [d] => { results := [.lit (.bool true)], args := [d] }
  | _ => none }
def materialReadsRow : OpenClaim := { program := "ytacbmmnipedpdaadoor", sum := "e82f194c3c847878c512dcbfabbe2866bb7366215c8570a110584fcb689263a9", func := "shipyard/shipyardlaw15.MaterialReads", spec := "materialReads", inPlace := ["internal/abi.NoEscape", "internal/bytealg.IndexByteString", "internal/bytealg.IndexString"], unfollowed := true, recurses := true, named := ["internal/strconv.uint64pow10", "math/bits.deBruijn32tab", "math/bits.deBruijn64tab", "internal/bytealg.MaxLen"], apart := false, laid := [("math/bits.deBruijn32tab", laid_math_bits_deBruijn32tab), ("math/bits.deBruijn64tab", laid_math_bits_deBruijn64tab), ("internal/strconv.uint64pow10", laid_internal_strconv_uint64pow10)] }
def MaterialReadsSaid : Prop := materialReadsRow.holds Tryd.pinned (OpenSpec.ofChange materialReadsSpec)

/-- ITS FALSE NEIGHBOUR: 'it returns false'. Refute it at one input. -/
def materialReadsWrong : ChangeSpec := { name := "materialReads", fn := fun _ => fun
  | [d] => { results := [.lit (.bool false)], args := [d] }
  | _ => none }
def MaterialReadsWrongFalsely : Prop := materialReadsRow.holds Tryd.pinned (OpenSpec.ofChange materialReadsWrong)

/-- 'shipyardlaw15.MaterialParts': WHATEVER THE INPUT: true; the input reads as it did. -/
def materialPartsSpec : ChangeSpec := { name := "materialParts", fn := fun _ => fun
  | [d1, d2] => { results := [.lit (.bool true)], args := [d1, d2] }
  | _ => none }
def materialPartsRow : OpenClaim := { program := "ytacbmmnipedpdaadoor", sum := "e82f194c3c847878c512dcbfabbe2866bb7366215c8570a110584fcb689263a9", func := "shipyard/shipyardlaw15.MaterialParts", spec := "materialParts", inPlace := ["internal/abi.NoEscape", "internal/bytealg.IndexByteString", "internal/bytealg.IndexString"], unfollowed := true, recurses := true, named := ["internal/strconv.uint64pow10", "math/bits.deBruijn32tab", "math/bits.deBruijn64tab", "internal/bytealg.MaxLen"], apart := false, laid := [("math/bits.deBruijn32tab", laid_math_bits_deBruijn32tab), ("math/bits.deBruijn64tab", laid_math_bits_deBruijn64tab), ("internal/strconv.uint64pow10", laid_internal_strconv_uint64pow10)] }
def MaterialPartsSaid : Prop := materialPartsRow.holds Tryd.pinned (OpenSpec.ofChange materialPartsSpec)

/-- ITS FALSE NEIGHBOUR: 'it returns false'. Refute it at one input. -/
def materialPartsWrong : ChangeSpec := { name := "materialParts", fn := fun _ => fun
  | [d1, d2] => { results := [.lit (.bool false)], args := [d1, d2] }
  | _ => none }
def MaterialPartsWrongFalsely : Prop := materialPartsRow.holds Tryd.pinned (OpenSpec.ofChange materialPartsWrong)

/-- 'shipyardlaw15.MaterialRolls': WHATEVER THE INPUT: true; the input reads as it did. -/
def materialRollsSpec : ChangeSpec := { name := "materialRolls", fn := fun _ => fun
  | [d1, d2] => { results := [.lit (.bool true)], args := [d1, d2] }
  | _ => none }
def materialRollsRow : OpenClaim := { program := "ytacbmmnipedpdaadoor", sum := "e82f194c3c847878c512dcbfabbe2866bb7366215c8570a110584fcb689263a9", func := "shipyard/shipyardlaw15.MaterialRolls", spec := "materialRolls", inPlace := ["internal/abi.NoEscape", "internal/bytealg.IndexByteString", "internal/bytealg.IndexString"], unfollowed := true, recurses := true, named := ["internal/strconv.uint64pow10", "math/bits.deBruijn32tab", "math/bits.deBruijn64tab", "internal/bytealg.MaxLen"], apart := false, laid := [("math/bits.deBruijn32tab", laid_math_bits_deBruijn32tab), ("math/bits.deBruijn64tab", laid_math_bits_deBruijn64tab), ("internal/strconv.uint64pow10", laid_internal_strconv_uint64pow10)] }
def MaterialRollsSaid : Prop := materialRollsRow.holds Tryd.pinned (OpenSpec.ofChange materialRollsSpec)

/-- ITS FALSE NEIGHBOUR: 'it returns false'. Refute it at one input. -/
def materialRollsWrong : ChangeSpec := { name := "materialRolls", fn := fun _ => fun
  | [d1, d2] => { results := [.lit (.bool false)], args := [d1, d2] }
  | _ => none }
def MaterialRollsWrongFalsely : Prop := materialRollsRow.holds Tryd.pinned (OpenSpec.ofChange materialRollsWrong)

/- THE SECOND FORM. 'bulk': how many values and letters a reading holds, each counted each time it is reached (what is shared counts as often as it is met; a slice's spare places count too). A statement '..UptoSaid' is the law's where the arguments, and the package variables that the reading takes, are together of bulk at most 1048576: NARROWER than '..Said'. Prove '..Said' where nothing that the law and all that it calls make is longer than what came in: it says more and counts as full. Else prove '..UptoSaid'. A law counts once. -/
mutual
def uptoBulk {H : Type} : DataW H → Nat
  | .lit (.string bytes) => bytes.length + 1
  | .lit _ => 1
  | .nil => 1
  | .ptr d => uptoBulk d + 1
  | .slice elems spare => uptoBulkAll elems + uptoBulkAll spare + 1
  | .agg parts => uptoBulkAll parts + 1
  | .iface _ d => uptoBulk d + 1
  | .map entries => uptoBulkEntries entries + 1
  | .held _ => 1
def uptoBulkAll {H : Type} : List (DataW H) → Nat
  | [] => 0
  | d :: r => uptoBulk d + uptoBulkAll r
def uptoBulkEntries {H : Type} : List (Lit × DataW H) → Nat
  | [] => 0
  | x :: r => uptoBulkEntry x + uptoBulkEntries r
def uptoBulkEntry {H : Type} : Lit × DataW H → Nat
  | (.string bytes, d) => bytes.length + uptoBulk d + 1
  | (_, d) => uptoBulk d + 1
 end
def uptoSmall : (H : Type) → List (DataW H) → Bool := fun _ ds => decide (uptoBulkAll ds ≤ 1048576)
def OpenSpec.upto (s : _root_.Go.ChangeSpec) : _root_.Go.OpenSpec := { _root_.Go.OpenSpec.ofChange s with cond := some uptoSmall }

/-- 'shipyardlaw15.MaterialChecks', WHERE WHAT IT READS IS OF BULK AT MOST 1048576: true; the input reads as it did. -/
def materialChecksUptoRow : OpenClaim := { program := "ytacbmmnipedpdaadoor", sum := "e82f194c3c847878c512dcbfabbe2866bb7366215c8570a110584fcb689263a9", func := "shipyard/shipyardlaw15.MaterialChecks", spec := "materialChecks", inPlace := ["internal/abi.NoEscape", "internal/bytealg.IndexByteString", "internal/bytealg.IndexString"], unfollowed := true, recurses := true, named := ["internal/strconv.uint64pow10", "math/bits.deBruijn32tab", "math/bits.deBruijn64tab", "internal/bytealg.MaxLen"], apart := false, laid := [("math/bits.deBruijn32tab", laid_math_bits_deBruijn32tab), ("math/bits.deBruijn64tab", laid_math_bits_deBruijn64tab), ("internal/strconv.uint64pow10", laid_internal_strconv_uint64pow10)], narrowed := true }
def MaterialChecksUptoSaid : Prop := materialChecksUptoRow.holds Tryd.pinned (OpenSpec.upto materialChecksSpec)

/-- 'shipyardlaw15.MaterialFinds', WHERE WHAT IT READS IS OF BULK AT MOST 1048576: true; the input reads as it did. -/
def materialFindsUptoRow : OpenClaim := { program := "ytacbmmnipedpdaadoor", sum := "e82f194c3c847878c512dcbfabbe2866bb7366215c8570a110584fcb689263a9", func := "shipyard/shipyardlaw15.MaterialFinds", spec := "materialFinds", inPlace := ["internal/abi.NoEscape", "internal/bytealg.IndexByteString", "internal/bytealg.IndexString"], unfollowed := true, recurses := true, named := ["internal/strconv.uint64pow10", "math/bits.deBruijn32tab", "math/bits.deBruijn64tab", "internal/bytealg.MaxLen"], apart := false, laid := [("math/bits.deBruijn32tab", laid_math_bits_deBruijn32tab), ("math/bits.deBruijn64tab", laid_math_bits_deBruijn64tab), ("internal/strconv.uint64pow10", laid_internal_strconv_uint64pow10)], narrowed := true }
def MaterialFindsUptoSaid : Prop := materialFindsUptoRow.holds Tryd.pinned (OpenSpec.upto materialFindsSpec)

/-- 'shipyardlaw15.MaterialTexts', WHERE WHAT IT READS IS OF BULK AT MOST 1048576: true; the input reads as it did. -/
def materialTextsUptoRow : OpenClaim := { program := "ytacbmmnipedpdaadoor", sum := "e82f194c3c847878c512dcbfabbe2866bb7366215c8570a110584fcb689263a9", func := "shipyard/shipyardlaw15.MaterialTexts", spec := "materialTexts", inPlace := ["internal/abi.NoEscape", "internal/bytealg.IndexByteString", "internal/bytealg.IndexString"], unfollowed := true, recurses := true, named := ["internal/strconv.uint64pow10", "math/bits.deBruijn32tab", "math/bits.deBruijn64tab", "internal/bytealg.MaxLen"], apart := false, laid := [("math/bits.deBruijn32tab", laid_math_bits_deBruijn32tab), ("math/bits.deBruijn64tab", laid_math_bits_deBruijn64tab), ("internal/strconv.uint64pow10", laid_internal_strconv_uint64pow10)], narrowed := true }
def MaterialTextsUptoSaid : Prop := materialTextsUptoRow.holds Tryd.pinned (OpenSpec.upto materialTextsSpec)

/-- 'shipyardlaw15.MaterialParses', WHERE WHAT IT READS IS OF BULK AT MOST 1048576: true; the input reads as it did. -/
def materialParsesUptoRow : OpenClaim := { program := "ytacbmmnipedpdaadoor", sum := "e82f194c3c847878c512dcbfabbe2866bb7366215c8570a110584fcb689263a9", func := "shipyard/shipyardlaw15.MaterialParses", spec := "materialParses", inPlace := ["internal/abi.NoEscape", "internal/bytealg.IndexByteString", "internal/bytealg.IndexString"], unfollowed := true, recurses := true, named := ["internal/strconv.uint64pow10", "math/bits.deBruijn32tab", "math/bits.deBruijn64tab", "internal/bytealg.MaxLen"], apart := false, laid := [("math/bits.deBruijn32tab", laid_math_bits_deBruijn32tab), ("math/bits.deBruijn64tab", laid_math_bits_deBruijn64tab), ("internal/strconv.uint64pow10", laid_internal_strconv_uint64pow10)], narrowed := true }
def MaterialParsesUptoSaid : Prop := materialParsesUptoRow.holds Tryd.pinned (OpenSpec.upto materialParsesSpec)

/-- 'shipyardlaw15.MaterialBack', WHERE WHAT IT READS IS OF BULK AT MOST 1048576: true; the input reads as it did. -/
def materialBackUptoRow : OpenClaim := { program := "ytacbmmnipedpdaadoor", sum := "e82f194c3c847878c512dcbfabbe2866bb7366215c8570a110584fcb689263a9", func := "shipyard/shipyardlaw15.MaterialBack", spec := "materialBack", inPlace := ["internal/abi.NoEscape", "internal/bytealg.IndexByteString", "internal/bytealg.IndexString"], unfollowed := true, recurses := true, named := ["internal/strconv.uint64pow10", "math/bits.deBruijn32tab", "math/bits.deBruijn64tab", "internal/bytealg.MaxLen"], apart := false, laid := [("math/bits.deBruijn32tab", laid_math_bits_deBruijn32tab), ("math/bits.deBruijn64tab", laid_math_bits_deBruijn64tab), ("internal/strconv.uint64pow10", laid_internal_strconv_uint64pow10)], narrowed := true }
def MaterialBackUptoSaid : Prop := materialBackUptoRow.holds Tryd.pinned (OpenSpec.upto materialBackSpec)

/-- 'shipyardlaw15.MaterialReads', WHERE WHAT IT READS IS OF BULK AT MOST 1048576: true; the input reads as it did. -/
def materialReadsUptoRow : OpenClaim := { program := "ytacbmmnipedpdaadoor", sum := "e82f194c3c847878c512dcbfabbe2866bb7366215c8570a110584fcb689263a9", func := "shipyard/shipyardlaw15.MaterialReads", spec := "materialReads", inPlace := ["internal/abi.NoEscape", "internal/bytealg.IndexByteString", "internal/bytealg.IndexString"], unfollowed := true, recurses := true, named := ["internal/strconv.uint64pow10", "math/bits.deBruijn32tab", "math/bits.deBruijn64tab", "internal/bytealg.MaxLen"], apart := false, laid := [("math/bits.deBruijn32tab", laid_math_bits_deBruijn32tab), ("math/bits.deBruijn64tab", laid_math_bits_deBruijn64tab), ("internal/strconv.uint64pow10", laid_internal_strconv_uint64pow10)], narrowed := true }
def MaterialReadsUptoSaid : Prop := materialReadsUptoRow.holds Tryd.pinned (OpenSpec.upto materialReadsSpec)

/-- 'shipyardlaw15.MaterialParts', WHERE WHAT IT READS IS OF BULK AT MOST 1048576: true; the input reads as it did. -/
def materialPartsUptoRow : OpenClaim := { program := "ytacbmmnipedpdaadoor", sum := "e82f194c3c847878c512dcbfabbe2866bb7366215c8570a110584fcb689263a9", func := "shipyard/shipyardlaw15.MaterialParts", spec := "materialParts", inPlace := ["internal/abi.NoEscape", "internal/bytealg.IndexByteString", "internal/bytealg.IndexString"], unfollowed := true, recurses := true, named := ["internal/strconv.uint64pow10", "math/bits.deBruijn32tab", "math/bits.deBruijn64tab", "internal/bytealg.MaxLen"], apart := false, laid := [("math/bits.deBruijn32tab", laid_math_bits_deBruijn32tab), ("math/bits.deBruijn64tab", laid_math_bits_deBruijn64tab), ("internal/strconv.uint64pow10", laid_internal_strconv_uint64pow10)], narrowed := true }
def MaterialPartsUptoSaid : Prop := materialPartsUptoRow.holds Tryd.pinned (OpenSpec.upto materialPartsSpec)

/-- 'shipyardlaw15.MaterialRolls', WHERE WHAT IT READS IS OF BULK AT MOST 1048576: true; the input reads as it did. -/
def materialRollsUptoRow : OpenClaim := { program := "ytacbmmnipedpdaadoor", sum := "e82f194c3c847878c512dcbfabbe2866bb7366215c8570a110584fcb689263a9", func := "shipyard/shipyardlaw15.MaterialRolls", spec := "materialRolls", inPlace := ["internal/abi.NoEscape", "internal/bytealg.IndexByteString", "internal/bytealg.IndexString"], unfollowed := true, recurses := true, named := ["internal/strconv.uint64pow10", "math/bits.deBruijn32tab", "math/bits.deBruijn64tab", "internal/bytealg.MaxLen"], apart := false, laid := [("math/bits.deBruijn32tab", laid_math_bits_deBruijn32tab), ("math/bits.deBruijn64tab", laid_math_bits_deBruijn64tab), ("internal/strconv.uint64pow10", laid_internal_strconv_uint64pow10)], narrowed := true }
def MaterialRollsUptoSaid : Prop := materialRollsUptoRow.holds Tryd.pinned (OpenSpec.upto materialRollsSpec)

end Rows
end Go.Proofs.YtacbmmnipedpdaaDoor

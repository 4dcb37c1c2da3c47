/-
  NARROWER THAN 'FOR EVERY INPUT', by the rows' own cells (each row's printed sentence says how): NcprogMakes: laid · NcprogTexts: laid · NcprogParses: laid · NcprogRuns: laid · NcprogLong: laid · NcprogBack: laid · NcprogCuts: laid · NcprogOrders: laid.
  DERIVED. THE GIVEN ROWS OF THIS SEAT. 8 by the template 'for every input the law returns true; each argument reads behind the call as it read before'; 0 by the template 'total and deterministic' (their statements: YthfnncnmggkfaaaDoorTotals.lean).
  GIVEN WITH THE SEED: the statements are not yours to turn. If you find one false, say at which input.
  Laid BY PROGRAM, IN A SANDBOX (cutbox-rows.mjs): the forced cells as the released guide's own fill.sh prints them over the translation 950e2d20e05ecc7f… (all of the seat's roots in one cut). By AI agents, Wed Nov 11 2026. No macro, syntax, notation, axiom, sorry.
-/
import Derived.Test.YthfnncnmggkfaaaDoorChecked
import GoSem.Claim
import GoSem.ClaimJoined
import GoSem.ClaimMapViews
import Derived.JoinedTies
import Derived.KernelRfl
namespace Go.Proofs.YthfnncnmggkfaaaDoor
/- THE CELL 'sum', in the pinned program and in every row, IS THE sha256 OF THE DUMP (.gsa) THAT YthfnncnmggkfaaaDoorProg.lean LOADS. Nothing in Lean hashes anything: it is a label: what it is worth is what the hold of that sum in a sandbox is worth. -/
noncomputable def Tryd.pinned : Pinned := { name := "ythfnncnmggkfaaadoor", sum := "950e2d20e05ecc7f87d365671b2035bd7edca31e61fbae7503aac64af100bca6", checked := Tryd.checked }
namespace Rows
def none {H : Type} : Left H := { results := [], args := [] }

/- WHAT THE LISTED PACKAGE-LEVEL VARIABLES READ AS WHEN THE CALL BEGINS. Each datum BY PROGRAM (the guide's laid-datum.mjs) off the statement by which the dump's own 'gosem.cut.vars' lays the variable. In a bare row this is a premise. The card (YthfnncnmggkfaaaDoorCards.lean) ties it to the program's text. -/
def laid_math_bits_deBruijn32tab {H : Type} : DataW H := .agg [.lit (.int .u8 0), .lit (.int .u8 1), .lit (.int .u8 28), .lit (.int .u8 2), .lit (.int .u8 29), .lit (.int .u8 14), .lit (.int .u8 24), .lit (.int .u8 3), .lit (.int .u8 30), .lit (.int .u8 22), .lit (.int .u8 20), .lit (.int .u8 15), .lit (.int .u8 25), .lit (.int .u8 17), .lit (.int .u8 4), .lit (.int .u8 8), .lit (.int .u8 31), .lit (.int .u8 27), .lit (.int .u8 13), .lit (.int .u8 23), .lit (.int .u8 21), .lit (.int .u8 19), .lit (.int .u8 16), .lit (.int .u8 7), .lit (.int .u8 26), .lit (.int .u8 12), .lit (.int .u8 18), .lit (.int .u8 6), .lit (.int .u8 11), .lit (.int .u8 5), .lit (.int .u8 10), .lit (.int .u8 9)]
def laid_math_bits_deBruijn64tab {H : Type} : DataW H := .agg [.lit (.int .u8 0), .lit (.int .u8 1), .lit (.int .u8 56), .lit (.int .u8 2), .lit (.int .u8 57), .lit (.int .u8 49), .lit (.int .u8 28), .lit (.int .u8 3), .lit (.int .u8 61), .lit (.int .u8 58), .lit (.int .u8 42), .lit (.int .u8 50), .lit (.int .u8 38), .lit (.int .u8 29), .lit (.int .u8 17), .lit (.int .u8 4), .lit (.int .u8 62), .lit (.int .u8 47), .lit (.int .u8 59), .lit (.int .u8 36), .lit (.int .u8 45), .lit (.int .u8 43), .lit (.int .u8 51), .lit (.int .u8 22), .lit (.int .u8 53), .lit (.int .u8 39), .lit (.int .u8 33), .lit (.int .u8 30), .lit (.int .u8 24), .lit (.int .u8 18), .lit (.int .u8 12), .lit (.int .u8 5), .lit (.int .u8 63), .lit (.int .u8 55), .lit (.int .u8 48), .lit (.int .u8 27), .lit (.int .u8 60), .lit (.int .u8 41), .lit (.int .u8 37), .lit (.int .u8 16), .lit (.int .u8 46), .lit (.int .u8 35), .lit (.int .u8 44), .lit (.int .u8 21), .lit (.int .u8 52), .lit (.int .u8 32), .lit (.int .u8 23), .lit (.int .u8 11), .lit (.int .u8 54), .lit (.int .u8 26), .lit (.int .u8 40), .lit (.int .u8 15), .lit (.int .u8 34), .lit (.int .u8 20), .lit (.int .u8 31), .lit (.int .u8 10), .lit (.int .u8 25), .lit (.int .u8 14), .lit (.int .u8 19), .lit (.int .u8 9), .lit (.int .u8 13), .lit (.int .u8 8), .lit (.int .u8 7), .lit (.int .u8 6)]
def laid_internal_strconv_uint64pow10 {H : Type} : DataW H := .agg [.lit (.int .u64 1), .lit (.int .u64 10), .lit (.int .u64 100), .lit (.int .u64 1000), .lit (.int .u64 10000), .lit (.int .u64 100000), .lit (.int .u64 1000000), .lit (.int .u64 10000000), .lit (.int .u64 100000000), .lit (.int .u64 1000000000), .lit (.int .u64 10000000000), .lit (.int .u64 100000000000), .lit (.int .u64 1000000000000), .lit (.int .u64 10000000000000), .lit (.int .u64 100000000000000), .lit (.int .u64 1000000000000000), .lit (.int .u64 10000000000000000), .lit (.int .u64 100000000000000000), .lit (.int .u64 1000000000000000000), .lit (.int .u64 10000000000000000000)]

/-- 'shipyardlaw27.NcprogMakes': WHATEVER THE INPUT: true; the input reads as it did. -/
def ncprogMakesSpec : ChangeSpec := { name := "ncprogMakes", fn := fun _ => fun
  | [d1, d2] => { results := [.lit (.bool true)], args := [d1, d2] }
  | _ => none }
def ncprogMakesRow : OpenClaim := { program := "ythfnncnmggkfaaadoor", sum := "950e2d20e05ecc7f87d365671b2035bd7edca31e61fbae7503aac64af100bca6", func := "shipyard/shipyardlaw27.NcprogMakes", spec := "ncprogMakes", inPlace := ["internal/abi.NoEscape", "internal/bytealg.IndexByteString", "internal/bytealg.IndexString"], unfollowed := true, recurses := true, named := ["internal/strconv.uint64pow10", "math/bits.deBruijn32tab", "math/bits.deBruijn64tab", "internal/bytealg.MaxLen"], apart := false, laid := [("math/bits.deBruijn32tab", laid_math_bits_deBruijn32tab), ("math/bits.deBruijn64tab", laid_math_bits_deBruijn64tab), ("internal/strconv.uint64pow10", laid_internal_strconv_uint64pow10)] }
def NcprogMakesSaid : Prop := ncprogMakesRow.holds Tryd.pinned (OpenSpec.ofChange ncprogMakesSpec)

/-- ITS FALSE NEIGHBOUR: 'it returns false'. Refute it at one input. -/
def ncprogMakesWrong : ChangeSpec := { name := "ncprogMakes", fn := fun _ => fun
  | [d1, d2] => { results := [.lit (.bool false)], args := [d1, d2] }
  | _ => none }
def NcprogMakesWrongFalsely : Prop := ncprogMakesRow.holds Tryd.pinned (OpenSpec.ofChange ncprogMakesWrong)

/-- 'shipyardlaw27.NcprogTexts': WHATEVER THE INPUT: true; the input reads as it did. -/
def ncprogTextsSpec : ChangeSpec := { name := "ncprogTexts", fn := fun _ => fun
  | [d] => { results := [.lit (.bool true)], args := [d] }
  | _ => none }
def ncprogTextsRow : OpenClaim := { program := "ythfnncnmggkfaaadoor", sum := "950e2d20e05ecc7f87d365671b2035bd7edca31e61fbae7503aac64af100bca6", func := "shipyard/shipyardlaw27.NcprogTexts", spec := "ncprogTexts", inPlace := ["internal/abi.NoEscape", "internal/bytealg.IndexByteString", "internal/bytealg.IndexString"], unfollowed := true, recurses := true, named := ["internal/strconv.uint64pow10", "math/bits.deBruijn32tab", "math/bits.deBruijn64tab", "internal/bytealg.MaxLen"], apart := false, laid := [("math/bits.deBruijn32tab", laid_math_bits_deBruijn32tab), ("math/bits.deBruijn64tab", laid_math_bits_deBruijn64tab), ("internal/strconv.uint64pow10", laid_internal_strconv_uint64pow10)] }
def NcprogTextsSaid : Prop := ncprogTextsRow.holds Tryd.pinned (OpenSpec.ofChange ncprogTextsSpec)

/-- ITS FALSE NEIGHBOUR: 'it returns false'. Refute it at one input. -/
def ncprogTextsWrong : ChangeSpec := { name := "ncprogTexts", fn := fun _ => fun
  | [d] => { results := [.lit (.bool false)], args := [d] }
  | _ => none }
def NcprogTextsWrongFalsely : Prop := ncprogTextsRow.holds Tryd.pinned (OpenSpec.ofChange ncprogTextsWrong)

/-- 'shipyardlaw27.NcprogParses': WHATEVER THE INPUT: true; the input reads as it did. -/
def ncprogParsesSpec : ChangeSpec := { name := "ncprogParses", fn := fun _ => fun
  | [d] => { results := [.lit (.bool true)], args := [d] }
  | _ => none }
def ncprogParsesRow : OpenClaim := { program := "ythfnncnmggkfaaadoor", sum := "950e2d20e05ecc7f87d365671b2035bd7edca31e61fbae7503aac64af100bca6", func := "shipyard/shipyardlaw27.NcprogParses", spec := "ncprogParses", inPlace := ["internal/abi.NoEscape", "internal/bytealg.IndexByteString", "internal/bytealg.IndexString"], unfollowed := true, recurses := true, named := ["internal/strconv.uint64pow10", "math/bits.deBruijn32tab", "math/bits.deBruijn64tab", "internal/bytealg.MaxLen"], apart := false, laid := [("math/bits.deBruijn32tab", laid_math_bits_deBruijn32tab), ("math/bits.deBruijn64tab", laid_math_bits_deBruijn64tab), ("internal/strconv.uint64pow10", laid_internal_strconv_uint64pow10)] }
def NcprogParsesSaid : Prop := ncprogParsesRow.holds Tryd.pinned (OpenSpec.ofChange ncprogParsesSpec)

/-- ITS FALSE NEIGHBOUR: 'it returns false'. Refute it at one input. -/
def ncprogParsesWrong : ChangeSpec := { name := "ncprogParses", fn := fun _ => fun
  | [d] => { results := [.lit (.bool false)], args := [d] }
  | _ => none }
def NcprogParsesWrongFalsely : Prop := ncprogParsesRow.holds Tryd.pinned (OpenSpec.ofChange ncprogParsesWrong)

/-- 'shipyardlaw27.NcprogRuns': WHATEVER THE INPUT: true; the input reads as it did. -/
def ncprogRunsSpec : ChangeSpec := { name := "ncprogRuns", fn := fun _ => fun
  | [d] => { results := [.lit (.bool true)], args := [d] }
  | _ => none }
def ncprogRunsRow : OpenClaim := { program := "ythfnncnmggkfaaadoor", sum := "950e2d20e05ecc7f87d365671b2035bd7edca31e61fbae7503aac64af100bca6", func := "shipyard/shipyardlaw27.NcprogRuns", spec := "ncprogRuns", inPlace := ["internal/abi.NoEscape", "internal/bytealg.IndexByteString", "internal/bytealg.IndexString"], unfollowed := true, recurses := true, named := ["internal/strconv.uint64pow10", "math/bits.deBruijn32tab", "math/bits.deBruijn64tab", "internal/bytealg.MaxLen"], apart := false, laid := [("math/bits.deBruijn32tab", laid_math_bits_deBruijn32tab), ("math/bits.deBruijn64tab", laid_math_bits_deBruijn64tab), ("internal/strconv.uint64pow10", laid_internal_strconv_uint64pow10)] }
def NcprogRunsSaid : Prop := ncprogRunsRow.holds Tryd.pinned (OpenSpec.ofChange ncprogRunsSpec)

/-- ITS FALSE NEIGHBOUR: 'it returns false'. Refute it at one input. -/
def ncprogRunsWrong : ChangeSpec := { name := "ncprogRuns", fn := fun _ => fun
  | [d] => { results := [.lit (.bool false)], args := [d] }
  | _ => none }
def NcprogRunsWrongFalsely : Prop := ncprogRunsRow.holds Tryd.pinned (OpenSpec.ofChange ncprogRunsWrong)

/-- 'shipyardlaw27.NcprogLong': WHATEVER THE INPUT: true; the input reads as it did. -/
def ncprogLongSpec : ChangeSpec := { name := "ncprogLong", fn := fun _ => fun
  | [d] => { results := [.lit (.bool true)], args := [d] }
  | _ => none }
def ncprogLongRow : OpenClaim := { program := "ythfnncnmggkfaaadoor", sum := "950e2d20e05ecc7f87d365671b2035bd7edca31e61fbae7503aac64af100bca6", func := "shipyard/shipyardlaw27.NcprogLong", spec := "ncprogLong", inPlace := ["internal/abi.NoEscape", "internal/bytealg.IndexByteString", "internal/bytealg.IndexString"], unfollowed := true, recurses := true, named := ["internal/strconv.uint64pow10", "math/bits.deBruijn32tab", "math/bits.deBruijn64tab", "internal/bytealg.MaxLen"], apart := false, laid := [("math/bits.deBruijn32tab", laid_math_bits_deBruijn32tab), ("math/bits.deBruijn64tab", laid_math_bits_deBruijn64tab), ("internal/strconv.uint64pow10", laid_internal_strconv_uint64pow10)] }
def NcprogLongSaid : Prop := ncprogLongRow.holds Tryd.pinned (OpenSpec.ofChange ncprogLongSpec)

/-- ITS FALSE NEIGHBOUR: 'it returns false'. Refute it at one input. -/
def ncprogLongWrong : ChangeSpec := { name := "ncprogLong", fn := fun _ => fun
  | [d] => { results := [.lit (.bool false)], args := [d] }
  | _ => none }
def NcprogLongWrongFalsely : Prop := ncprogLongRow.holds Tryd.pinned (OpenSpec.ofChange ncprogLongWrong)

/-- 'shipyardlaw27.NcprogBack': WHATEVER THE INPUT: true; the input reads as it did. -/
def ncprogBackSpec : ChangeSpec := { name := "ncprogBack", fn := fun _ => fun
  | [d] => { results := [.lit (.bool true)], args := [d] }
  | _ => none }
def ncprogBackRow : OpenClaim := { program := "ythfnncnmggkfaaadoor", sum := "950e2d20e05ecc7f87d365671b2035bd7edca31e61fbae7503aac64af100bca6", func := "shipyard/shipyardlaw27.NcprogBack", spec := "ncprogBack", inPlace := ["internal/abi.NoEscape", "internal/bytealg.IndexByteString", "internal/bytealg.IndexString"], unfollowed := true, recurses := true, named := ["internal/strconv.uint64pow10", "math/bits.deBruijn32tab", "math/bits.deBruijn64tab", "internal/bytealg.MaxLen"], apart := false, laid := [("math/bits.deBruijn32tab", laid_math_bits_deBruijn32tab), ("math/bits.deBruijn64tab", laid_math_bits_deBruijn64tab), ("internal/strconv.uint64pow10", laid_internal_strconv_uint64pow10)] }
def NcprogBackSaid : Prop := ncprogBackRow.holds Tryd.pinned (OpenSpec.ofChange ncprogBackSpec)

/-- ITS FALSE NEIGHBOUR: 'it returns false'. Refute it at one input. -/
def ncprogBackWrong : ChangeSpec := { name := "ncprogBack", fn := fun _ => fun
  | [d] => { results := [.lit (.bool false)], args := [d] }
  | _ => none }
def NcprogBackWrongFalsely : Prop := ncprogBackRow.holds Tryd.pinned (OpenSpec.ofChange ncprogBackWrong)

/-- 'shipyardlaw27.NcprogCuts': WHATEVER THE INPUT: true; the input reads as it did. -/
def ncprogCutsSpec : ChangeSpec := { name := "ncprogCuts", fn := fun _ => fun
  | [d1, d2] => { results := [.lit (.bool true)], args := [d1, d2] }
  | _ => none }
def ncprogCutsRow : OpenClaim := { program := "ythfnncnmggkfaaadoor", sum := "950e2d20e05ecc7f87d365671b2035bd7edca31e61fbae7503aac64af100bca6", func := "shipyard/shipyardlaw27.NcprogCuts", spec := "ncprogCuts", inPlace := ["internal/abi.NoEscape", "internal/bytealg.IndexByteString", "internal/bytealg.IndexString"], unfollowed := true, recurses := true, named := ["internal/strconv.uint64pow10", "math/bits.deBruijn32tab", "math/bits.deBruijn64tab", "internal/bytealg.MaxLen"], apart := false, laid := [("math/bits.deBruijn32tab", laid_math_bits_deBruijn32tab), ("math/bits.deBruijn64tab", laid_math_bits_deBruijn64tab), ("internal/strconv.uint64pow10", laid_internal_strconv_uint64pow10)] }
def NcprogCutsSaid : Prop := ncprogCutsRow.holds Tryd.pinned (OpenSpec.ofChange ncprogCutsSpec)

/-- ITS FALSE NEIGHBOUR: 'it returns false'. Refute it at one input. -/
def ncprogCutsWrong : ChangeSpec := { name := "ncprogCuts", fn := fun _ => fun
  | [d1, d2] => { results := [.lit (.bool false)], args := [d1, d2] }
  | _ => none }
def NcprogCutsWrongFalsely : Prop := ncprogCutsRow.holds Tryd.pinned (OpenSpec.ofChange ncprogCutsWrong)

/-- 'shipyardlaw27.NcprogOrders': WHATEVER THE INPUT: true; the input reads as it did. -/
def ncprogOrdersSpec : ChangeSpec := { name := "ncprogOrders", fn := fun _ => fun
  | [d1, d2] => { results := [.lit (.bool true)], args := [d1, d2] }
  | _ => none }
def ncprogOrdersRow : OpenClaim := { program := "ythfnncnmggkfaaadoor", sum := "950e2d20e05ecc7f87d365671b2035bd7edca31e61fbae7503aac64af100bca6", func := "shipyard/shipyardlaw27.NcprogOrders", spec := "ncprogOrders", inPlace := ["internal/abi.NoEscape", "internal/bytealg.IndexByteString", "internal/bytealg.IndexString"], unfollowed := true, recurses := true, named := ["internal/strconv.uint64pow10", "math/bits.deBruijn32tab", "math/bits.deBruijn64tab", "internal/bytealg.MaxLen"], apart := false, laid := [("math/bits.deBruijn32tab", laid_math_bits_deBruijn32tab), ("math/bits.deBruijn64tab", laid_math_bits_deBruijn64tab), ("internal/strconv.uint64pow10", laid_internal_strconv_uint64pow10)] }
def NcprogOrdersSaid : Prop := ncprogOrdersRow.holds Tryd.pinned (OpenSpec.ofChange ncprogOrdersSpec)

/-- ITS FALSE NEIGHBOUR: 'it returns false'. Refute it at one input. -/
def ncprogOrdersWrong : ChangeSpec := { name := "ncprogOrders", fn := fun _ => fun
  | [d1, d2] => { results := [.lit (.bool false)], args := [d1, d2] }
  | _ => none }
def NcprogOrdersWrongFalsely : Prop := ncprogOrdersRow.holds Tryd.pinned (OpenSpec.ofChange ncprogOrdersWrong)

/- THE SECOND FORM. 'bulk': how many values and letters a reading holds, each counted each time it is reached (what is shared counts as often as it is met; a slice's spare places count too). A statement '..UptoSaid' is the law's where the arguments, and the package variables that the reading takes, are together of bulk at most 1048576: NARROWER than '..Said'. Prove '..Said' where nothing that the law and all that it calls make is longer than what came in: it says more and counts as full. Else prove '..UptoSaid'. A law counts once. -/
mutual
def uptoBulk {H : Type} : DataW H → Nat
  | .lit (.string bytes) => bytes.length + 1
  | .lit _ => 1
  | .nil => 1
  | .ptr d => uptoBulk d + 1
  | .slice elems spare => uptoBulkAll elems + uptoBulkAll spare + 1
  | .agg parts => uptoBulkAll parts + 1
  | .iface _ d => uptoBulk d + 1
  | .map entries => uptoBulkEntries entries + 1
  | .held _ => 1
def uptoBulkAll {H : Type} : List (DataW H) → Nat
  | [] => 0
  | d :: r => uptoBulk d + uptoBulkAll r
def uptoBulkEntries {H : Type} : List (Lit × DataW H) → Nat
  | [] => 0
  | x :: r => uptoBulkEntry x + uptoBulkEntries r
def uptoBulkEntry {H : Type} : Lit × DataW H → Nat
  | (.string bytes, d) => bytes.length + uptoBulk d + 1
  | (_, d) => uptoBulk d + 1
 end
def uptoSmall : (H : Type) → List (DataW H) → Bool := fun _ ds => decide (uptoBulkAll ds ≤ 1048576)
def OpenSpec.upto (s : _root_.Go.ChangeSpec) : _root_.Go.OpenSpec := { _root_.Go.OpenSpec.ofChange s with cond := some uptoSmall }

/-- 'shipyardlaw27.NcprogMakes', WHERE WHAT IT READS IS OF BULK AT MOST 1048576: true; the input reads as it did. -/
def ncprogMakesUptoRow : OpenClaim := { program := "ythfnncnmggkfaaadoor", sum := "950e2d20e05ecc7f87d365671b2035bd7edca31e61fbae7503aac64af100bca6", func := "shipyard/shipyardlaw27.NcprogMakes", spec := "ncprogMakes", inPlace := ["internal/abi.NoEscape", "internal/bytealg.IndexByteString", "internal/bytealg.IndexString"], unfollowed := true, recurses := true, named := ["internal/strconv.uint64pow10", "math/bits.deBruijn32tab", "math/bits.deBruijn64tab", "internal/bytealg.MaxLen"], apart := false, laid := [("math/bits.deBruijn32tab", laid_math_bits_deBruijn32tab), ("math/bits.deBruijn64tab", laid_math_bits_deBruijn64tab), ("internal/strconv.uint64pow10", laid_internal_strconv_uint64pow10)], narrowed := true }
def NcprogMakesUptoSaid : Prop := ncprogMakesUptoRow.holds Tryd.pinned (OpenSpec.upto ncprogMakesSpec)

/-- 'shipyardlaw27.NcprogTexts', WHERE WHAT IT READS IS OF BULK AT MOST 1048576: true; the input reads as it did. -/
def ncprogTextsUptoRow : OpenClaim := { program := "ythfnncnmggkfaaadoor", sum := "950e2d20e05ecc7f87d365671b2035bd7edca31e61fbae7503aac64af100bca6", func := "shipyard/shipyardlaw27.NcprogTexts", spec := "ncprogTexts", inPlace := ["internal/abi.NoEscape", "internal/bytealg.IndexByteString", "internal/bytealg.IndexString"], unfollowed := true, recurses := true, named := ["internal/strconv.uint64pow10", "math/bits.deBruijn32tab", "math/bits.deBruijn64tab", "internal/bytealg.MaxLen"], apart := false, laid := [("math/bits.deBruijn32tab", laid_math_bits_deBruijn32tab), ("math/bits.deBruijn64tab", laid_math_bits_deBruijn64tab), ("internal/strconv.uint64pow10", laid_internal_strconv_uint64pow10)], narrowed := true }
def NcprogTextsUptoSaid : Prop := ncprogTextsUptoRow.holds Tryd.pinned (OpenSpec.upto ncprogTextsSpec)

/-- 'shipyardlaw27.NcprogParses', WHERE WHAT IT READS IS OF BULK AT MOST 1048576: true; the input reads as it did. -/
def ncprogParsesUptoRow : OpenClaim := { program := "ythfnncnmggkfaaadoor", sum := "950e2d20e05ecc7f87d365671b2035bd7edca31e61fbae7503aac64af100bca6", func := "shipyard/shipyardlaw27.NcprogParses", spec := "ncprogParses", inPlace := ["internal/abi.NoEscape", "internal/bytealg.IndexByteString", "internal/bytealg.IndexString"], unfollowed := true, recurses := true, named := ["internal/strconv.uint64pow10", "math/bits.deBruijn32tab", "math/bits.deBruijn64tab", "internal/bytealg.MaxLen"], apart := false, laid := [("math/bits.deBruijn32tab", laid_math_bits_deBruijn32tab), ("math/bits.deBruijn64tab", laid_math_bits_deBruijn64tab), ("internal/strconv.uint64pow10", laid_internal_strconv_uint64pow10)], narrowed := true }
def NcprogParsesUptoSaid : Prop := ncprogParsesUptoRow.holds Tryd.pinned (OpenSpec.upto ncprogParsesSpec)

/-- 'shipyardlaw27.NcprogRuns', WHERE WHAT IT READS IS OF BULK AT MOST 1048576: true; the input reads as it did. -/
def ncprogRunsUptoRow : OpenClaim := { program := "ythfnncnmggkfaaadoor", sum := "950e2d20e05ecc7f87d365671b2035bd7edca31e61fbae7503aac64af100bca6", func := "shipyard/shipyardlaw27.NcprogRuns", spec := "ncprogRuns", inPlace := ["internal/abi.NoEscape", "internal/bytealg.IndexByteString", "internal/bytealg.IndexString"], unfollowed := true, recurses := true, named := ["internal/strconv.uint64pow10", "math/bits.deBruijn32tab", "math/bits.deBruijn64tab", "internal/bytealg.MaxLen"], apart := false, laid := [("math/bits.deBruijn32tab", laid_math_bits_deBruijn32tab), ("math/bits.deBruijn64tab", laid_math_bits_deBruijn64tab), ("internal/strconv.uint64pow10", laid_internal_strconv_uint64pow10)], narrowed := true }
def NcprogRunsUptoSaid : Prop := ncprogRunsUptoRow.holds Tryd.pinned (OpenSpec.upto ncprogRunsSpec)

/-- 'shipyardlaw27.NcprogLong', WHERE WHAT IT READS IS OF BULK AT MOST 1048576: true; the input reads as it did. -/
def ncprogLongUptoRow : OpenClaim := { program := "ythfnncnmggkfaaadoor", sum := "950e2d20e05ecc7f87d365671b2035bd7edca31e61fbae7503aac64af100bca6", func := "shipyard/shipyardlaw27.NcprogLong", spec := "ncprogLong", inPlace := ["internal/abi.NoEscape", "internal/bytealg.IndexByteString", "internal/bytealg.IndexString"], unfollowed := true, recurses := true, named := ["internal/strconv.uint64pow10", "math/bits.deBruijn32tab", "math/bits.deBruijn64tab", "internal/bytealg.MaxLen"], apart := false, laid := [("math/bits.deBruijn32tab", laid_math_bits_deBruijn32tab), ("math/bits.deBruijn64tab", laid_math_bits_deBruijn64tab), ("internal/strconv.uint64pow10", laid_internal_strconv_uint64pow10)], narrowed := true }
def NcprogLongUptoSaid : Prop := ncprogLongUptoRow.holds Tryd.pinned (OpenSpec.upto ncprogLongSpec)

/-- 'shipyardlaw27.NcprogBack', WHERE WHAT IT READS IS OF BULK AT MOST 1048576: true; the input reads as it did. -/
def ncprogBackUptoRow : OpenClaim := { program := "ythfnncnmggkfaaadoor", sum := "950e2d20e05ecc7f87d365671b2035bd7edca31e61fbae7503aac64af100bca6", func := "shipyard/shipyardlaw27.NcprogBack", spec := "ncprogBack", inPlace := ["internal/abi.NoEscape", "internal/bytealg.IndexByteString", "internal/bytealg.IndexString"], unfollowed := true, recurses := true, named := ["internal/strconv.uint64pow10", "math/bits.deBruijn32tab", "math/bits.deBruijn64tab", "internal/bytealg.MaxLen"], apart := false, laid := [("math/bits.deBruijn32tab", laid_math_bits_deBruijn32tab), ("math/bits.deBruijn64tab", laid_math_bits_deBruijn64tab), ("internal/strconv.uint64pow10", laid_internal_strconv_uint64pow10)], narrowed := true }
def NcprogBackUptoSaid : Prop := ncprogBackUptoRow.holds Tryd.pinned (OpenSpec.upto ncprogBackSpec)

/-- 'shipyardlaw27.NcprogCuts', WHERE WHAT IT READS IS OF BULK AT MOST 1048576: true; the input reads as it did. -/
def ncprogCutsUptoRow : OpenClaim := { program := "ythfnncnmggkfaaadoor", sum := "950e2d20e05ecc7f87d365671b2035bd7edca31e61fbae7503aac64af100bca6", func := "shipyard/shipyardlaw27.NcprogCuts", spec := "ncprogCuts", inPlace := ["internal/abi.NoEscape", "internal/bytealg.IndexByteString", "internal/bytealg.IndexString"], unfollowed := true, recurses := true, named := ["internal/strconv.uint64pow10", "math/bits.deBruijn32tab", "math/bits.deBruijn64tab", "internal/bytealg.MaxLen"], apart := false, laid := [("math/bits.deBruijn32tab", laid_math_bits_deBruijn32tab), ("math/bits.deBruijn64tab", laid_math_bits_deBruijn64tab), ("internal/strconv.uint64pow10", laid_internal_strconv_uint64pow10)], narrowed := true }
def NcprogCutsUptoSaid : Prop := ncprogCutsUptoRow.holds Tryd.pinned (OpenSpec.upto ncprogCutsSpec)

/-- 'shipyardlaw27.NcprogOrders', WHERE WHAT IT READS IS OF BULK AT MOST 1048576: true; the input reads as it did. -/
def ncprogOrdersUptoRow : OpenClaim := { program := "ythfnncnmggkfaaadoor", sum := "950e2d20e05ecc7f87d365671b2035bd7edca31e61fbae7503aac64af100bca6", func := "shipyard/shipyardlaw27.NcprogOrders", spec := "ncprogOrders", inPlace := ["internal/abi.NoEscape", "internal/bytealg.IndexByteString", "internal/bytealg.IndexString"], unfollowed := true, recurses := true, named := ["internal/strconv.uint64pow10", "math/bits.deBruijn32tab", "math/bits.deBruijn64tab", "internal/bytealg.MaxLen"], apart := false, laid := [("math/bits.deBruijn32tab", laid_math_bits_deBruijn32tab), ("math/bits.deBruijn64tab", laid_math_bits_deBruijn64tab), ("internal/strconv.uint64pow10", laid_internal_strconv_uint64pow10)], narrowed := true }
def NcprogOrdersUptoSaid : Prop := ncprogOrdersUptoRow.holds Tryd.pinned (OpenSpec.upto ncprogOrdersSpec)

end Rows
end Go.Proofs.YthfnncnmggkfaaaDoor

/- Chapter 15: the examples of the chapter, in plain Lean. -/
import Derived.Test.YtacbmmnipedpdaaDoorMatPlain
namespace Go.Proofs.YtacbmmnipedpdaaDoor
open Go

def avM : Mat := ([([65], 7850, 235, [8, 10, 12])], [([72, 80, 50, 48, 48], 2500, 200, 12000)])
def avText : List UInt8 := [103, 114, 97, 100, 101, 32, 65, 32, 100, 101, 110, 115, 105, 116, 121, 32, 55, 56, 53, 48, 32, 121, 105, 101, 108, 100, 32, 50, 51, 53, 32, 103, 97, 117, 103, 101, 115, 32, 56, 32, 49, 48, 32, 49, 50, 59, 10, 115, 101, 99, 116, 105, 111, 110, 32, 72, 80, 50, 48, 48, 32, 97, 114, 101, 97, 32, 50, 53, 48, 48, 32, 104, 101, 105, 103, 104, 116, 32, 50, 48, 48, 32, 115, 116, 111, 99, 107, 32, 49, 50, 48, 48, 48, 59, 10]
def avRem : List UInt8 := [35, 32, 114, 101, 109, 97, 114, 107, 10, 103, 114, 97, 100, 101, 32, 65, 32, 100, 101, 110, 115, 105, 116, 121, 32, 55, 56, 53, 48, 32, 121, 105, 101, 108, 100, 32, 50, 51, 53, 32, 103, 97, 117, 103, 101, 115, 32, 56, 32, 49, 48, 32, 49, 50, 59, 10, 115, 101, 99, 116, 105, 111, 110, 32, 72, 80, 50, 48, 48, 32, 97, 114, 101, 97, 32, 50, 53, 48, 48, 32, 104, 101, 105, 103, 104, 116, 32, 50, 48, 48, 32, 115, 116, 111, 99, 107, 32, 49, 50, 48, 48, 48, 59, 10]
def avB1 : List UInt8 := [103, 114, 97, 100, 101, 32, 65, 32, 100, 101, 110, 115, 105, 116, 121, 32, 120]
def avB2 : List UInt8 := [115, 101, 99, 116, 105, 111, 110, 32, 83, 32, 97, 114, 101, 97, 32, 49, 32, 104, 101, 105, 103, 104, 116, 32, 49, 32, 115, 116, 111, 99, 107, 32, 53, 59]
theorem av_format : formatM avM = (avText, 0) := by decide +kernel
instance decGr : DecidableEq Gr := inferInstanceAs (DecidableEq (List UInt8 × Int × Int × List Int))
instance decSc : DecidableEq Sc := inferInstanceAs (DecidableEq (List UInt8 × Int × Int × Int))
instance decMat : DecidableEq Mat := inferInstanceAs (DecidableEq (List Gr × List Sc))
theorem av_parse : parseM avRem = (avM, 0, 0) := by decide +kernel
theorem av_bad1 : parseM avB1 = (([], []), 5, 16) := by decide +kernel
theorem av_bad2 : parseM avB2 = (([], []), 9, 0) := by decide +kernel
theorem av_check : checkM avM = 0 := by decide +kernel
theorem av_check2 : checkM ([([65], 7850, 235, [])], []) = 3 := by decide +kernel
theorem av_sect : scF avM [72, 80, 50, 48, 48] = (([72, 80, 50, 48, 48], 2500, 200, 12000), true) := by decide +kernel
theorem av_roll : rolledF avM [65] 10 = true ∧ rolledF avM [65] 9 = false := by decide +kernel
theorem av_lens : ∀ g ∈ avM.1, g.2.2.2.length ≤ 1000 := by decide +kernel
end Go.Proofs.YtacbmmnipedpdaaDoor

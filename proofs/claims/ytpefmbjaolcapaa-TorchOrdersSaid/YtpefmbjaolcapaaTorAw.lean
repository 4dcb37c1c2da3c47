/- Chapter 26: the chapter's numbers, in plain words. -/
import Derived.Test.YtpefmbjaolcapaaTorZ2
import Derived.Test.YtpefmbjaolcapaaTorPick
namespace Go.Proofs.Ytpefmbjaolcapaa
def oneS : List Shp := [(squareF 2 2 6, [squareF 4 4 2])]
def twoS : List Shp := [(squareF 9 0 3, []), (squareF 5 0 3, [])]
theorem aw_ct1 : contoursF oneS = [(0, 0), (0, 1)] := by decide +kernel
theorem aw_start : beginF oneS (0, 1) = (4, 4) := by decide +kernel
theorem aw_travel1 : travelF oneS [(0, 1), (0, 0)] = (6, 0) := by decide +kernel
theorem aw_best : bestF twoS = ([(1, 0), (0, 0)], 9, 0) := by decide +kernel
theorem aw_travel2 : travelF twoS [(0, 0), (1, 0)] = (13, 0) := by decide +kernel
theorem aw_check1 : checkT (contoursF oneS) [(0, 0), (0, 1)] = 11 := by decide +kernel
theorem aw_check2 : checkT (contoursF oneS) [(0, 1)] = 3 := by decide +kernel
theorem aw_greedy : greedyTF twoS = [(1, 0), (0, 0)] := by decide +kernel
theorem aw_check0 : checkT (contoursF []) [] = 0 := by decide +kernel
end Go.Proofs.Ytpefmbjaolcapaa

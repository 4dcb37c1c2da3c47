/- Chapter 34: the chapter's numbers, in plain words. -/
import Derived.Test.YtgiphdjblnfjcaaWsPerm
namespace Go.Proofs.Ytgiphdjblnfjcaa
def lA : List Bead := [⟨0, 100⟩, ⟨10, 90⟩, ⟨20, 100⟩]
theorem awake_greedy : greedyF lA 0 0 [] = ([1, 0, 2], 0) := by decide +kernel
theorem awake_best : bestF lA 0 0 [] = ([0, 1, 2], 100, 0) := by decide +kernel
theorem awake_best2 : bestF lA 0 0 [(2, 0)] = ([1, 2, 0], 100, 0) := by decide +kernel
theorem awake_check : wsCheckF lA 0 0 [(2, 0)] [0, 1, 2] = 11 := by decide +kernel
theorem awake_check2 : wsCheckF lA 0 0 [] [0, 1, 2] = 0 := by decide +kernel
end Go.Proofs.Ytgiphdjblnfjcaa

/- The lexical order of a long region's operations, looked at piece by piece: each piece a kernel's check of its own. No program in sight. -/
import Derived.Test.YtpefmbjaolcapaaCommon
import Derived.Deep.RegionHeld3
namespace Go.Proofs.Ytpefmbjaolcapaa
open Go

section
variable {md : Region.Mode} {ops : Array Oper}
/-- n operations from number k on may come in the order of the text. -/
def lexN (md : Region.Mode) (ops : Array Oper) : Nat → Nat → Array Bool → Bool
  | 0, _, _ => true
  | n + 1, k, L => (Region.ready md ops L).contains k && Region.free md ops L k && lexN md ops n (k + 1) (L.setIfInBounds k true)
def markN : Nat → Nat → Array Bool → Array Bool
  | 0, _, L => L
  | n + 1, k, L => markN n (k + 1) (L.setIfInBounds k true)
theorem lex_split : ∀ {n fuel k : Nat} {L L' : Array Bool}, lexN md ops n k L = true → markN n k L = L' → Region.lexFrom md ops fuel (k + n) L' = true → Region.lexFrom md ops (n + fuel) k L = true
  | 0, fuel, k, L, L', _, hL, h => by
    rw [markN] at hL
    rw [Nat.zero_add, hL]
    exact h
  | n + 1, fuel, k, L, L', h1, hL, h => by
    rw [lexN, Bool.and_eq_true] at h1
    rw [markN] at hL
    have ih := lex_split (fuel := fuel) h1.2 hL (by rw [show k + 1 + n = k + (n + 1) by omega]; exact h)
    rw [show n + 1 + fuel = (n + fuel) + 1 by omega, Region.lexFrom, Bool.and_eq_true]
    exact ⟨h1.1, ih⟩
theorem lexB_of (h1 : Region.noSelect ops = true) (h2 : Region.lexFrom md ops ops.size 0 (Array.replicate ops.size false) = true) : Region.lexB md ops = true := by
  unfold Region.lexB
  rw [h1, h2]; rfl
end
end Go.Proofs.Ytpefmbjaolcapaa

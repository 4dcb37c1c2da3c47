/- Chapter 06: what the hashes are, in plain Lean, in the walk's own words for the operations on words. -/
import Derived.Test.YtejlmdkbcjkkhaaDoorCommon
namespace Go.Proofs.YtejlmdkbcjkkhaaDoor
open Go Go.RowKit

def hstep (h : Int) (b : UInt8) : Int := IntKind.u64.wrap (bits .xor .u64 h (b.toNat : Int) * 1099511628211)
def hashL (l : List UInt8) : Int := l.foldl hstep 14695981039346656037
theorem hstep_walk (h : Int) (b : UInt8) : IntKind.u64.wrap (bits .xor .u64 h (IntKind.u64.wrap (b.toNat : Int)) * 1099511628211) = hstep h b := by
  unfold hstep
  rw [IntWalk.u64_in (b.toNat : Int) (by have := UInt8.toNat_lt b; omega)]
theorem u64_val {a b : Int} (h : a = b) : Value.int .u64 a = .int .u64 b := by rw [h]
theorem hashL_snoc (l : List UInt8) (b : UInt8) : hashL (l ++ [b]) = hstep (hashL l) b := by simp [hashL]
/-- byte k of a string, as a fresh letter. -/
theorem byte_at (s : ByteArray) {k : Nat} (h : k < s.size) : s.data.toList[k]? = some s[k] := by
  rw [List.getElem?_eq_getElem (by simpa using h)]; rfl
end Go.Proofs.YtejlmdkbcjkkhaaDoor

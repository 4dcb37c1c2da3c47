/- Chapter 06: what the program's and the reference's functions do, by walking their text: Hash. -/
import Derived.Test.YtejlmdkbcjkkhaaDoorChecked
import Derived.Test.YtejlmdkbcjkkhaaDoorDigSpec
namespace Go.Proofs.YtejlmdkbcjkkhaaDoor
open Go Go.RowKit

set_option maxHeartbeats 400000 in
theorem hash_any (s : ByteArray) (w : World) (hs : s.size ≤ 9223372036854775807) :
    Calls Tryd.prog 14 #[.string s] w fun e w' => e = .returned (.int .u64 (hashL s.data.toList)) ∧ w = w' := by
  go_enter Tryd.func14, Tryd.ntmps14
  go_wp2
  go_loop [2, 6] (fun h i => ∃ k : Nat, k ≤ s.size ∧ i = .int .i64 k ∧ h = .int .u64 (hashL (s.data.toList.take k))) (fun _ i => s.size - (intOf i).toNat)
  case atStart => exact ⟨0, Nat.zero_le _, rfl, by simp [hashL]⟩
  case round =>
    obtain ⟨k, hk, rfl, rfl⟩ := hrel
    by_cases hlt : k < s.size
    · have HS : Hid (hashL (s.data.toList.take (k + 1)) = hstep (hashL (s.data.toList.take k)) s[k]) := by
        show hashL _ = _; rw [take_one (byte_at s hlt), hashL_snoc]
      go_wp2
      go_round
      case rel => exact ⟨k + 1, by omega, by go_num, u64_val (by rw [HS.out]; exact hstep_walk _ _)⟩
      case measure => simp [intOf]; omega
    · have hke : s.data.toList.take k = s.data.toList := List.take_of_length_le (by simp; omega)
      rw [hke]
      clear hke
      go_wp2
      go_ret
      exact ⟨rfl, by trivial⟩

set_option maxHeartbeats 400000 in
theorem refHash_any (s : ByteArray) (w : World) (hs : s.size ≤ 9223372036854775807) :
    Calls Tryd.prog 15 #[.string s] w fun e w' => e = .returned (.int .u64 (hashL s.data.toList)) ∧ w = w' := by
  go_enter Tryd.func15, Tryd.ntmps15
  go_wp2
  go_loop [3, 4] (fun h i => ∃ k : Nat, k ≤ s.size ∧ i = .int .i64 k ∧ h = .int .u64 (hashL (s.data.toList.take k))) (fun _ i => s.size - (intOf i).toNat)
  case atStart => exact ⟨0, Nat.zero_le _, rfl, by simp [hashL]⟩
  case round =>
    obtain ⟨k, hk, rfl, rfl⟩ := hrel
    by_cases hlt : k < s.size
    · have HS : Hid (hashL (s.data.toList.take (k + 1)) = hstep (hashL (s.data.toList.take k)) s[k]) := by
        show hashL _ = _; rw [take_one (byte_at s hlt), hashL_snoc]
      go_wp2
      go_round
      case rel => exact ⟨k + 1, by omega, by go_num, u64_val (by rw [HS.out]; exact hstep_walk _ _)⟩
      case measure => simp [intOf]; omega
    · have hke : s.data.toList.take k = s.data.toList := List.take_of_length_le (by simp; omega)
      rw [hke]
      clear hke
      go_wp2
      go_ret
      exact ⟨rfl, by trivial⟩
end Go.Proofs.YtejlmdkbcjkkhaaDoor

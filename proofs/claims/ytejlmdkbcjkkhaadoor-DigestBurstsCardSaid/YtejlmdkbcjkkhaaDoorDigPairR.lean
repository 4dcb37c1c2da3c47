/- Chapter 06: Pair of the reference, by walking its text. -/
import Derived.Test.YtejlmdkbcjkkhaaDoorDigPair
namespace Go.Proofs.YtejlmdkbcjkkhaaDoor
open Go Go.RowKit Go.ChangeShapes

theorem conv_one (w : World) (z : Int) (b : UInt8) (h : (b.toNat : Int) = z) :
    (convert 49 9 (.slice (some ⟨w.heap.size, 0, none⟩) 1 1)).run Tryd.prog (w.alloc (.cells #[.int .u8 z] 5)) = .ok (.string ⟨#[b]⟩) (w.alloc (.cells #[.int .u8 z] 5)) :=
  run_convert_bytes_back _ _ _ _ _ 1 [b] Tryd.underlying49 Tryd.underlying5 Tryd.underlying9 (fun j hj => new1_cells w (.int .u8 z) 5 j _ (by
    simp at hj; subst hj; simp [h]))

theorem drop8 (a : Int) (k : Nat) (h : k < 8) : (be8 a).drop (8 - (k + 1)) = byteOf a (7 - k) :: (be8 a).drop (8 - k) := by
  have h1 : 7 - k < (be8 a).length := by rw [be8_len]; omega
  have h2 := List.drop_eq_getElem_cons h1
  rw [show 8 - (k + 1) = 7 - k from by omega, h2, show 7 - k + 1 = 8 - k from by omega]
  congr 1
  have := be8_get a (7 - k) (by omega)
  rw [List.getElem?_eq_getElem h1] at this
  injection this
theorem byte_back {a q : Int} {k : Nat} (h : k < 8) (hq : q = a / 256 ^ k) : ((byteOf a (7 - k)).toNat : Int) = q % 256 := by
  rw [byteOf_toNat, hq, show 56 - 8 * (7 - k) = 8 * k from by omega, show (256 : Int) = 2 ^ 8 from rfl, ← Int.pow_mul]
theorem div256 {a q : Int} {k : Nat} (hq : q = a / 256 ^ k) : q / 256 = a / 256 ^ (k + 1) := by
  rw [hq, Int.pow_succ, Int.ediv_ediv_of_nonneg (by exact Int.pow_nonneg (by decide))]
theorem str_snoc (b : UInt8) (l : List UInt8) : (⟨#[b]⟩ ++ ⟨l.toArray⟩ : ByteArray) = ⟨(b :: l).toArray⟩ := by
  apply ByteArray.ext
  apply Array.toList_inj.1
  simp
theorem str_append (k l : List UInt8) : (⟨k.toArray⟩ ++ ⟨l.toArray⟩ : ByteArray) = ⟨(k ++ l).toArray⟩ := by
  apply ByteArray.ext
  apply Array.toList_inj.1
  simp
theorem str_val {a b : ByteArray} (h : a = b) : Value.string a = .string b := by rw [h]
theorem ret_str {a b : ByteArray} (h : a = b) : Ending.returned (.string a) = .returned (.string b) := by rw [h]

set_option maxHeartbeats 400000 in
theorem bytes_any (a : Int) (w : World) (ha0 : 0 ≤ a) (ha1 : a ≤ 18446744073709551615) :
    Calls Tryd.prog 26 #[.int .u64 a] w (Ret (.string ⟨(be8 a).toArray⟩) w) := by
  go_enter Tryd.func26, Tryd.ntmps26
  go_wp2
  go_loopw [0, 3, 4] (fun n s i W => ∃ k : Nat, ∃ q : Int, k ≤ 8 ∧ i = .int .i64 k ∧ n = .int .u64 q ∧ 0 ≤ q ∧ q ≤ 18446744073709551615 ∧ Hid (q = a / 256 ^ k) ∧ s = .string ⟨((be8 a).drop (8 - k)).toArray⟩ ∧ Below w.heap.size w W) (fun _ _ i _ => 8 - (intOf i).toNat)
  case atStart => exact ⟨0, a, by omega, rfl, rfl, ha0, ha1, by show a = a / 256 ^ 0; rw [Int.pow_zero, Int.ediv_one], str_val (by rw [List.drop_of_length_le (by simp [be8_len])]), Below.refl _ _⟩
  case round =>
    obtain ⟨k, q, hk, rfl, rfl, hq0, hq1, hq, rfl, hbel⟩ := hrel
    by_cases hlt : k < 8
    · have hXs : ((be8 a).drop (8 - k)).toArray.size ≤ 8 := by simp [be8_len]; try omega
      generalize hX : ((be8 a).drop (8 - k)).toArray = X at *
      have HX := Lib.hid hX
      clear hX
      have hb := byte_back hlt hq.out
      have HB := Lib.hid (drop8 a k hlt)
      generalize byteOf a (7 - k) = b at *
      have hc := conv_one wr (q % 256) b hb
      have hz := hbel.size
      clear hb
      go_wp2
      go_roundw
      case rel => exact ⟨k + 1, q / 256, by omega, by go_num, rfl, by omega, by omega, div256 hq.out, str_val (by rw [HB.out, ← HX.out, str_snoc]), hbel.alloc hz _⟩
      case measure => simp [intOf]; omega
    · obtain rfl : k = 8 := by omega
      go_wp2
      go_ret
      exact ⟨ret_str rfl, hbel⟩
set_option maxHeartbeats 400000 in
theorem refPair_any (a b : Int) (w : World) (ha0 : 0 ≤ a) (ha1 : a ≤ 18446744073709551615) (hb0 : 0 ≤ b) (hb1 : b ≤ 18446744073709551615) :
    Calls Tryd.prog 17 #[.int .u64 a, .int .u64 b] w (Ret (.int .u64 (pairL a b)) w) := by
  have HP : Hid (pairL a b = hashL (1 :: (be8 a ++ be8 b))) := rfl
  go_enter Tryd.func17, Tryd.ntmps17
  go_wp2_with fail
  refine (bytes_any a _ ha0 ha1).mono ?_
  rintro e w1 ⟨rfl, hb1'⟩
  have hXs : (be8 a).toArray.size ≤ 8 := by simp [be8_len]
  generalize hX : (be8 a).toArray = X at *
  have HX := Lib.hid hX
  clear hX
  go_wp2_with fail
  refine (bytes_any b _ hb0 hb1).mono ?_
  rintro e w2 ⟨rfl, hb2'⟩
  have hYs : (be8 b).toArray.size ≤ 8 := by simp [be8_len]
  generalize hY : (be8 b).toArray = Y at *
  have HY := Lib.hid hY
  clear hY
  have hw := bstep hb1' hb1'.size hb2'
  clear hb1' hb2'
  go_wp2_with fail
  have hs : ({ data := #[1] } ++ { data := X } ++ { data := Y } : ByteArray).size ≤ 17 := by simp [ByteArray.size_append]; show 1 + X.size + Y.size ≤ 17; omega
  refine (refHash_any _ _ (by omega)).mono ?_
  rintro e w3 ⟨rfl, rfl⟩
  have HE2 : Hid (hashL (1 :: (X.toList ++ Y.toList)) = pairL a b) := by show _ = _; rw [HP.out, ← HX.out, ← HY.out]
  clear hs
  go_wp2
  go_ret
  exact ⟨ret_u64 HE2.out, hw⟩
end Go.Proofs.YtejlmdkbcjkkhaaDoor

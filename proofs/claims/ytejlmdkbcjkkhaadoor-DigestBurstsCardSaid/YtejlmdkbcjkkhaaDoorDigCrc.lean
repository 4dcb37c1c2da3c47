/- Chapter 06: Crc, of the program and of the reference, by walking their text. -/
import Derived.Test.YtejlmdkbcjkkhaaDoorDigWalks
import Derived.Test.YtejlmdkbcjkkhaaDoorCrcPlain
namespace Go.Proofs.YtejlmdkbcjkkhaaDoor
open Go Go.RowKit

def crcReg (l : List UInt8) : Nat := l.foldl (fun r b => crcs 8 (r ^^^ b.toNat)) 4294967295
def crcL (l : List UInt8) : Nat := crcReg l ^^^ 4294967295
/-- the table is laid. -/
def TabW (w : World) : Prop := ∀ i, i < 16 → w.cell? ⟨0, i, none⟩ = some (.int .u32 (halvesT i : Int))

theorem u32_xor_nat (a b : Nat) (ha : a < 4294967296) (hb : b < 4294967296) : bits .xor .u32 (a : Int) (b : Int) = ((a ^^^ b : Nat) : Int) := by
  have hx : a ^^^ b < 2 ^ 32 := Nat.xor_lt_two_pow (by omega) (by omega)
  show IntKind.u32.wrap ((BitVec.ofInt 32 (a : Int) ^^^ BitVec.ofInt 32 (b : Int)).toNat : Int) = _
  rw [BitVec.toNat_xor, BitVec.ofInt_natCast, BitVec.ofInt_natCast, BitVec.toNat_ofNat, BitVec.toNat_ofNat, Nat.mod_eq_of_lt (by omega), Nat.mod_eq_of_lt (by omega), IntKind.wrap_u32]
  omega
theorem u32_and_nat (a b : Nat) (ha : a < 4294967296) (hb : b < 4294967296) : bits .and .u32 (a : Int) (b : Int) = ((a &&& b : Nat) : Int) := by
  have hx : a &&& b < 2 ^ 32 := Nat.and_lt_two_pow _ (by omega)
  show IntKind.u32.wrap ((BitVec.ofInt 32 (a : Int) &&& BitVec.ofInt 32 (b : Int)).toNat : Int) = _
  rw [BitVec.toNat_and, BitVec.ofInt_natCast, BitVec.ofInt_natCast, BitVec.toNat_ofNat, BitVec.toNat_ofNat, Nat.mod_eq_of_lt (by omega), Nat.mod_eq_of_lt (by omega), IntKind.wrap_u32]
  omega
theorem halvesT_lt : ∀ i : Nat, i < 16 → halvesT i < 4294967296 := by decide
/-- one nibble's step, as the walk meets it. -/
theorem nib_step (w : World) (hT : TabW w) (r : Nat) (hr : r < 4294967296) : ∃ i t r' : Nat, bits .and .u32 (r : Int) 15 = (i : Int) ∧ i < 16 ∧ w.cell? ⟨0, i, none⟩ = some (.int .u32 (t : Int)) ∧
    bits .xor .u32 ((r : Int) / 16) (t : Int) = (r' : Int) ∧ r' < 4294967296 ∧ r' = (r >>> 4) ^^^ halvesT (r &&& 15) := by
  have hi : r &&& 15 < 16 := by have := Nat.and_le_right (n := r) (m := 15); omega
  have hs : r >>> 4 = r / 16 := by rw [Nat.shiftRight_eq_div_pow]
  have ht := halvesT_lt _ hi
  refine ⟨r &&& 15, halvesT (r &&& 15), (r >>> 4) ^^^ halvesT (r &&& 15), u32_and_nat r 15 hr (by omega), hi, hT _ hi, ?_, ?_, rfl⟩
  · rw [← u32_xor_nat _ _ (by omega) ht, hs]; rfl
  · exact Nat.xor_lt_two_pow (n := 32) (by omega) (by omega)
theorem crcReg_lt (l : List UInt8) : crcReg l < 4294967296 := by
  have key : ∀ (l : List UInt8) (r : Nat), r < 4294967296 → l.foldl (fun r b => crcs 8 (r ^^^ b.toNat)) r < 4294967296 := by
    intro l
    induction l with
    | nil => intro r h; exact h
    | cons b l ih =>
      intro r h
      exact ih _ (crcs_lt 8 (Nat.xor_lt_two_pow (n := 32) (by omega) (by have := UInt8.toNat_lt b; omega)))
  exact key l _ (by decide)
theorem crcReg_snoc (l : List UInt8) (b : UInt8) : crcReg (l ++ [b]) = crcs 8 (crcReg l ^^^ b.toNat) := by simp [crcReg]
theorem ret_u32 {a b : Int} (h : a = b) : Ending.returned (.int .u32 a) = .returned (.int .u32 b) := by rw [h]
theorem u32_val {a b : Int} (h : a = b) : Value.int .u32 a = .int .u32 b := by rw [h]

set_option maxHeartbeats 400000 in
theorem crc_any (s : ByteArray) (w : World) (hs : s.size ≤ 9223372036854775807) (hT : TabW w) :
    Calls Tryd.prog 11 #[.string s] w fun e w' => e = .returned (.int .u32 (crcL s.data.toList : Int)) ∧ w = w' := by
  go_enter Tryd.func11, Tryd.ntmps11
  go_wp2
  go_loop [2, 8] (fun h i => ∃ k : Nat, k ≤ s.size ∧ i = .int .i64 k ∧ h = .int .u32 (crcReg (s.data.toList.take k) : Int)) (fun _ i => s.size - (intOf i).toNat)
  case atStart => exact ⟨0, Nat.zero_le _, rfl, u32_val (by rw [List.take_zero]; decide)⟩
  case round =>
    obtain ⟨k, hk, rfl, rfl⟩ := hrel
    by_cases hlt : k < s.size
    · have HS : Hid (crcReg (s.data.toList.take (k + 1)) = crcs 8 (crcReg (s.data.toList.take k) ^^^ s[k].toNat)) := by
        show crcReg _ = _; rw [take_one (byte_at s hlt), crcReg_snoc]
      have hr := crcReg_lt (s.data.toList.take k)
      generalize crcReg (s.data.toList.take k) = r at *
      have hb := UInt8.toNat_lt s[k]
      have hm : (s[k].toNat : Int) % 4294967296 = (s[k].toNat : Int) := by omega
      have hx := u32_xor_nat r s[k].toNat hr (by omega)
      have hr1 : r ^^^ s[k].toNat < 4294967296 := Nat.xor_lt_two_pow (n := 32) (by omega) (by omega)
      generalize hq : r ^^^ s[k].toNat = r1 at *
      obtain ⟨i1, t1, r2, ha1, hi1, hc1, hx1, hr2, hq1⟩ := nib_step w hT r1 hr1
      obtain ⟨i2, t2, r3, ha2, hi2, hc2, hx2, hr3, hq2⟩ := nib_step w hT r2 hr2
      have HQ := Lib.hid hq
      have HQ1 := Lib.hid hq1
      have HQ2 := Lib.hid hq2
      clear hq hq1 hq2 hr hb
      go_wp2
      go_round
      case rel => exact ⟨k + 1, by omega, by go_num, u32_val (by rw [HS.out, byte_step, ← HQ1.out, ← HQ2.out])⟩
      case measure => simp [intOf]; omega
    · have hke : s.data.toList.take k = s.data.toList := List.take_of_length_le (by simp; omega)
      rw [hke]
      clear hke
      have hr := crcReg_lt s.data.toList
      go_wp2
      go_ret
      exact ⟨ret_u32 ((u32_xor_nat 4294967295 _ (by decide) hr).trans (by rw [Nat.xor_comm]; rfl)), by trivial⟩
theorem crcs_snoc (n r : Nat) : crcs (n + 1) r = crc1 (crcs n r) := crcs_add n 1 r
set_option maxHeartbeats 400000 in
theorem refCrc_any (s : ByteArray) (w : World) (hs : s.size ≤ 9223372036854775807) :
    Calls Tryd.prog 12 #[.string s] w fun e w' => e = .returned (.int .u32 (crcL s.data.toList : Int)) ∧ w = w' := by
  go_enter Tryd.func12, Tryd.ntmps12
  go_wp2
  go_loop [3, 4] (fun h i => ∃ k : Nat, k ≤ s.size ∧ i = .int .i64 k ∧ h = .int .u32 (crcReg (s.data.toList.take k) : Int)) (fun _ i => s.size - (intOf i).toNat)
  case atStart => exact ⟨0, Nat.zero_le _, rfl, u32_val (by rw [List.take_zero]; decide)⟩
  case round =>
    obtain ⟨k, hk, rfl, rfl⟩ := hrel
    by_cases hlt : k < s.size
    · have HS : Hid (crcReg (s.data.toList.take (k + 1)) = crcs 8 (crcReg (s.data.toList.take k) ^^^ s[k].toNat)) := by
        show crcReg _ = _; rw [take_one (byte_at s hlt), crcReg_snoc]
      have hr := crcReg_lt (s.data.toList.take k)
      generalize crcReg (s.data.toList.take k) = r at *
      have hb := UInt8.toNat_lt s[k]
      have hm : (s[k].toNat : Int) % 4294967296 = (s[k].toNat : Int) := by omega
      have hx := u32_xor_nat r s[k].toNat hr (by omega)
      have hr1 : r ^^^ s[k].toNat < 4294967296 := Nat.xor_lt_two_pow (n := 32) (by omega) (by omega)
      generalize hq : r ^^^ s[k].toNat = r1 at *
      have HQ := Lib.hid hq
      clear hq hr hb
      go_wp2
      go_loop [3, 5] (fun h j => ∃ m : Nat, m ≤ 8 ∧ j = .int .i64 m ∧ h = .int .u32 (crcs m r1 : Int)) (fun _ j => 8 - (intOf j).toNat)
      case atStart => exact ⟨0, Nat.zero_le _, rfl, rfl⟩
      case round =>
        obtain ⟨m, hm8, rfl, rfl⟩ := hrel
        by_cases hlm : m < 8
        · have HC := Lib.hid (crcs_snoc m r1)
          have hq0 : crcs m r1 < 4294967296 := crcs_lt m hr1
          generalize crcs m r1 = q at *
          by_cases hodd : q % 2 = 1
          · have h1 : ((q : Int) % 2 == 1) = true := by simp; omega
            have hd := u32_xor_nat (q / 2) 2197175160 (by omega) (by omega)
            have HO : Hid (crc1 q = (q / 2) ^^^ 2197175160) := by show crc1 q = _; unfold crc1; rw [if_pos hodd]
            clear hodd
            go_wp2
            go_round
            case rel => exact ⟨m + 1, by omega, by go_num, u32_val (by rw [HC.out, HO.out]; first | exact hd | rfl)⟩
            case measure => simp [intOf]; omega
          · have h1 : ((q : Int) % 2 == 1) = false := by simp; omega
            have HO : Hid (crc1 q = q / 2) := by show crc1 q = _; unfold crc1; rw [if_neg hodd]
            clear hodd
            go_wp2
            go_round
            case rel => exact ⟨m + 1, by omega, by go_num, u32_val (by rw [HC.out, HO.out]; rfl)⟩
            case measure => simp [intOf]; omega
        · have hm8' : m = 8 := by omega
          subst hm8'
          go_wp2
          go_round
          case rel => exact ⟨k + 1, by omega, by go_num, u32_val (by rw [HS.out])⟩
          case measure => simp [intOf]; omega
    · have hke : s.data.toList.take k = s.data.toList := List.take_of_length_le (by simp; omega)
      rw [hke]
      clear hke
      have hr := crcReg_lt s.data.toList
      go_wp2
      go_ret
      exact ⟨ret_u32 (u32_xor_nat _ 4294967295 hr (by decide)), by trivial⟩
end Go.Proofs.YtejlmdkbcjkkhaaDoor

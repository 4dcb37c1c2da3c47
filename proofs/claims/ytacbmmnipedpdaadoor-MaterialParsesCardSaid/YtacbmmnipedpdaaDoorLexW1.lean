/- Chapter 07: the functions on one character, of the program and of the references, and the text's character at an offset, by walking their text. -/
import Derived.Test.YtacbmmnipedpdaaDoorChecked
import Derived.Test.YtacbmmnipedpdaaDoorLexPlain
import Derived.BigQuiet
namespace Go.Proofs.YtacbmmnipedpdaaDoor
open Go Go.RowKit

theorem isLetter_any (c : UInt8) (w : World) : Calls Tryd.prog 73 #[.int .i32 (c.toNat : Int)] w fun e w' => e = .returned (.bool (lxLet c)) ∧ w = w' := by
  have hb := UInt8.toNat_lt c
  go_enter Tryd.func73, Tryd.ntmps73
  go_wp2
  all_goals
    go_ret
    exact ⟨ret_bool (by rw [Bool.eq_iff_iff]; simp [lxLet] <;> omega), by first | exact rfl | exact True.intro⟩
theorem isDigit_any (c : UInt8) (w : World) : Calls Tryd.prog 75 #[.int .i32 (c.toNat : Int)] w fun e w' => e = .returned (.bool (isDig c)) ∧ w = w' := by
  have hb := UInt8.toNat_lt c
  go_enter Tryd.func75, Tryd.ntmps75
  go_wp2
  all_goals
    go_ret
    exact ⟨ret_bool (by rw [Bool.eq_iff_iff]; simp [isDig] <;> omega), by first | exact rfl | exact True.intro⟩
theorem u8eq (c : UInt8) (k : Nat) (hk : k < 256) : (c == UInt8.ofNat k) = ((c.toNat : Int) == (k : Int)) := by
  rw [Bool.eq_iff_iff, beq_iff_eq, beq_iff_eq]
  constructor
  · rintro rfl; rw [UInt8.toNat_ofNat_of_lt' hk]
  · intro h; exact UInt8.toNat_inj.1 (by rw [UInt8.toNat_ofNat_of_lt' hk]; omega)
theorem lxBl_int (c : UInt8) : lxBl c = ((c.toNat : Int) == 32 || (c.toNat : Int) == 9 || (c.toNat : Int) == 10 || (c.toNat : Int) == 13) := by
  unfold lxBl
  rw [show (32 : UInt8) = UInt8.ofNat 32 from rfl, show (9 : UInt8) = UInt8.ofNat 9 from rfl, show (10 : UInt8) = UInt8.ofNat 10 from rfl, show (13 : UInt8) = UInt8.ofNat 13 from rfl, u8eq c 32 (by decide), u8eq c 9 (by decide), u8eq c 10 (by decide), u8eq c 13 (by decide)]
  rfl
theorem isBlank_any (c : UInt8) (w : World) : Calls Tryd.prog 71 #[.int .i32 (c.toNat : Int)] w fun e w' => e = .returned (.bool (lxBl c)) ∧ w = w' := by
  have hb := UInt8.toNat_lt c
  have he := Lib.hid (lxBl_int c)
  go_enter Tryd.func71, Tryd.ntmps71
  go_wp2
  all_goals
    go_ret
    exact ⟨ret_bool (by first | exact he.out.symm | (rw [Bool.eq_iff_iff, he.out]; simp <;> omega)), by first | exact rfl | exact True.intro⟩
theorem lxPl_int (c : UInt8) : lxPl c = (decide ((32 : Int) ≤ (c.toNat : Int)) && decide ((c.toNat : Int) ≤ 126) && !((c.toNat : Int) == 34) && !((c.toNat : Int) == 92)) := by
  unfold lxPl
  rw [bne, bne, show (34 : UInt8) = UInt8.ofNat 34 from rfl, show (92 : UInt8) = UInt8.ofNat 92 from rfl, u8eq c 34 (by decide), u8eq c 92 (by decide)]
  rw [Bool.eq_iff_iff]; simp <;> omega
theorem plain_any (c : UInt8) (w : World) : Calls Tryd.prog 90 #[.int .i32 (c.toNat : Int)] w fun e w' => e = .returned (.bool (lxPl c)) ∧ w = w' := by
  have hb := UInt8.toNat_lt c
  have he := Lib.hid (lxPl_int c)
  go_enter Tryd.func90, Tryd.ntmps90
  go_wp2
  all_goals
    go_ret
    exact ⟨ret_bool (by first | exact he.out.symm | (rw [Bool.eq_iff_iff, he.out]; simp <;> omega)), by first | exact rfl | exact True.intro⟩
theorem refLetter_any (c : UInt8) (w : World) : Calls Tryd.prog 80 #[.int .u8 (c.toNat : Int)] w fun e w' => e = .returned (.bool (lxLet c)) ∧ w = w' := by
  have hb := UInt8.toNat_lt c
  go_enter Tryd.func80, Tryd.ntmps80
  go_wp2
  all_goals
    go_ret
    exact ⟨ret_bool (by rw [Bool.eq_iff_iff]; simp [lxLet] <;> omega), by first | exact rfl | exact True.intro⟩
theorem refDigit_any (c : UInt8) (w : World) : Calls Tryd.prog 82 #[.int .u8 (c.toNat : Int)] w fun e w' => e = .returned (.bool (isDig c)) ∧ w = w' := by
  have hb := UInt8.toNat_lt c
  go_enter Tryd.func82, Tryd.ntmps82
  go_wp2
  all_goals
    go_ret
    exact ⟨ret_bool (by rw [Bool.eq_iff_iff]; simp [isDig] <;> omega), by first | exact rfl | exact True.intro⟩
theorem r4Letter_any (c : UInt8) (w : World) : Calls Tryd.prog 56 #[.int .u8 (c.toNat : Int)] w fun e w' => e = .returned (.bool (lxLet c)) ∧ w = w' := by
  have hb := UInt8.toNat_lt c
  go_enter Tryd.func56, Tryd.ntmps56
  go_wp2
  all_goals
    go_ret
    exact ⟨ret_bool (by rw [Bool.eq_iff_iff]; simp [lxLet] <;> omega), by first | exact rfl | exact True.intro⟩
theorem r4Digit_any (c : UInt8) (w : World) : Calls Tryd.prog 57 #[.int .u8 (c.toNat : Int)] w fun e w' => e = .returned (.bool (isDig c)) ∧ w = w' := by
  have hb := UInt8.toNat_lt c
  go_enter Tryd.func57, Tryd.ntmps57
  go_wp2
  all_goals
    go_ret
    exact ⟨ret_bool (by rw [Bool.eq_iff_iff]; simp [isDig] <;> omega), by first | exact rfl | exact True.intro⟩
/-- the character at an offset. -/
theorem at_lt (s : ByteArray) (k : Nat) (c : UInt8) (w : World) (_ : s.size ≤ 9223372036854775807) (hc : s.data.toList[k]? = some c) :
    Calls Tryd.prog 72 #[.string s, .int .i64 (k : Int)] w fun e w' => e = .returned (.int .i32 (c.toNat : Int)) ∧ w = w' := by
  have hlt : k < s.size := by have := lt_of_get hc; simpa using this
  have hk : s[k] = c := by
    rw [List.getElem?_eq_getElem (by simpa using hlt)] at hc
    injection hc
  have hb := UInt8.toNat_lt c
  clear hc
  go_enter Tryd.func72, Tryd.ntmps72
  go_wp2
  go_ret
  exact ⟨rfl, by first | exact rfl | exact True.intro⟩
theorem at_end (s : ByteArray) (k : Nat) (w : World) (hs : s.size ≤ k) (_ : k ≤ 9223372036854775807) :
    Calls Tryd.prog 72 #[.string s, .int .i64 (k : Int)] w fun e w' => e = .returned (.int .i32 0) ∧ w = w' := by
  go_enter Tryd.func72, Tryd.ntmps72
  go_wp2
  go_ret
  exact ⟨rfl, by first | exact rfl | exact True.intro⟩
end Go.Proofs.YtacbmmnipedpdaaDoor

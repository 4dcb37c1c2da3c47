/- Chapter 01: Text of the reference, by walking its text. -/
import Derived.Test.YticohjhohbkmaaaDoorNumP2
import Derived.Laws.IdiomStrings
import Derived.Lib.ItoaLen
import Derived.ShutString
namespace Go.Proofs.YticohjhohbkmaaaDoor
open Go Go.RowKit Go.ChangeShapes

/-- the digits of what is left, none for 0. -/
def decP (m : Nat) : List UInt8 := if m = 0 then [] else Lib.decDigits m
def TextInv (M m : Nat) (s : List UInt8) : Prop := (s = [] ∧ m = M) ∨ (s ≠ [] ∧ Lib.decDigits M = decP m ++ s)
theorem text_step {M m : Nat} {s : List UInt8} (h : TextInv M m s) (hc : 0 < m ∨ s = []) : TextInv M (m / 10) (UInt8.ofNat (48 + m % 10) :: s) := by
  refine .inr ⟨by simp, ?_⟩
  rcases h with ⟨rfl, rfl⟩ | ⟨hs, h⟩
  · rw [Lib.decDigits]
    by_cases hm : m < 10
    · rw [dif_pos hm]
      have : m / 10 = 0 := by omega
      rw [this, show m % 10 = m from by omega]; rfl
    · rw [dif_neg hm]
      unfold decP
      rw [if_neg (by omega)]
  · rw [h]
    have hm : 0 < m := by
      rcases hc with hc | hc
      · exact hc
      · exact absurd hc hs
    have e : decP m = decP (m / 10) ++ [UInt8.ofNat (48 + m % 10)] := by
      unfold decP
      rw [if_neg (by omega), Lib.decDigits]
      by_cases hm : m < 10
      · rw [dif_pos hm, if_pos (by omega), show m % 10 = m from by omega]; rfl
      · rw [dif_neg hm, if_neg (by omega)]
    rw [e, List.append_assoc]; rfl
theorem text_end {M m : Nat} {s : List UInt8} (h : TextInv M m s) (h0 : m = 0) (hs : s ≠ []) : Lib.decDigits M = s := by
  rcases h with ⟨h, _⟩ | ⟨_, h⟩
  · exact absurd h hs
  · rw [h, h0]; rfl
theorem text_len {M m : Nat} {s : List UInt8} (h : TextInv M m s) (hM : M ≤ 18446744073709551615) : s.length ≤ 21 := by
  rcases h with ⟨rfl, _⟩ | ⟨_, h⟩
  · simp
  · have h1 : (Lib.decDigits M).length ≤ 20 := by
      rw [Lib.decDigits_length]
      exact Lib.nDigits_le20 M (by omega)
    rw [h, List.length_append] at h1
    omega
theorem conv_one (w : World) (z : Int) (b : UInt8) (h : (b.toNat : Int) = z) :
    (convert 47 9 (.slice (some ⟨w.heap.size, 0, none⟩) 1 1)).run Tryd.prog (w.alloc (.cells #[.int .u8 z] 5)) = .ok (.string ⟨#[b]⟩) (w.alloc (.cells #[.int .u8 z] 5)) :=
  run_convert_bytes_back _ _ _ _ _ 1 [b] Tryd.underlying47 Tryd.underlying5 Tryd.underlying9 (fun j hj => new1_cells w (.int .u8 z) 5 j _ (by
    simp at hj; subst hj; simp [h]))
theorem str_val {a b : ByteArray} (h : a = b) : Value.string a = .string b := by rw [h]
theorem ret_str {a b : ByteArray} (h : a = b) : Ending.returned (.string a) = .returned (.string b) := by rw [h]
theorem str_cons {b : UInt8} {S : ByteArray} {l : List UInt8} (h : S.data.toList = l) : (⟨#[b]⟩ ++ S : ByteArray) = ⟨(b :: l).toArray⟩ := by
  apply ByteArray.ext
  apply Array.toList_inj.1
  simp [h]
set_option maxHeartbeats 1000000 in
theorem refText_any (n : Int) (w : World) (h0 : -9223372036854775808 ≤ n) (h1 : n ≤ 9223372036854775807) :
    Calls Tryd.prog 28 #[.int .i64 n] w (Ret (.string ⟨(Lib.itoa n).toArray⟩) w) := by
  have M1 := Lib.hid (fun w => refMag_any n w h0 h1)
  have hM : n.natAbs ≤ 9223372036854775808 := by omega
  have HI : Hid (Lib.itoa n = if n < 0 then 45 :: Lib.decDigits n.natAbs else Lib.decDigits n.natAbs) := by
    show Lib.itoa n = _
    unfold Lib.itoa
    by_cases hn : n < 0
    · rw [if_pos hn, if_pos hn]
    · rw [if_neg hn, if_neg hn, show n.toNat = n.natAbs from by omega]
  generalize n.natAbs = M at *
  go_enter Tryd.func28, Tryd.ntmps28
  go_wp2_with fail
  refine (M1.out _).mono ?_
  rintro e w1 ⟨rfl, rfl⟩
  go_wp2_with fail
  go_loopw [3, 4] (fun s x W => ∃ (m : Nat) (l : List UInt8) (S : ByteArray), s = .string S ∧ Hid (S.data.toList = l) ∧ x = .int .u64 m ∧ m ≤ 9223372036854775808 ∧ Hid (TextInv M m l) ∧ Below w.heap.size w W) (fun s x _ => (intOf x).toNat + (match s with | .string S => if S.size = 0 then 1 else 0 | _ => 0))
  case atStart => exact ⟨M, [], ⟨#[]⟩, rfl, rfl, rfl, hM, .inl ⟨rfl, rfl⟩, Below.refl _ _⟩
  case round =>
    obtain ⟨m, l, S, rfl, hS, rfl, hm, hi, hb⟩ := hrel
    have hSl := text_len hi.out (by omega)
    have hSs : S.size ≤ 21 := by
      have := congrArg List.length hS.out
      have e : S.size = S.data.toList.length := by simp
      omega
    have hz := hb.size
    by_cases hc : 0 < m ∨ l = []
    · have HN := Lib.hid (text_step hi.out hc)
      have hbt : ((UInt8.ofNat (48 + m % 10)).toNat : Int) = 48 + (m : Int) % 10 := by rw [dig_nat (by omega)]; omega
      generalize hbe : UInt8.ofNat (48 + m % 10) = b at *
      have hcv := conv_one wr (48 + (m : Int) % 10) b hbt
      have HB := Lib.hid hbe
      have HBT := Lib.hid hbt
      clear hbe hbt
      have hsz : ({ data := #[b] } ++ S : ByteArray).size = 1 + S.size := by rw [ByteArray.size_append]; rfl
      rcases Classical.em (0 < m) with hp | hp
      · have d1 : decide (0 < m) = true := decide_eq_true hp
        clear hc
        have HSZ := Lib.hid hsz
        clear hsz
        go_wp2
        go_roundw
        case rel => exact ⟨m / 10, b :: l, _, rfl, by show _ = _; rw [str_cons hS.out], by go_num, by omega, HN, hb.alloc hz _⟩
        case measure =>
          show ((m : Int) / 10).toNat + (if ({ data := #[b] } ++ S : ByteArray).size = 0 then 1 else 0) < ((m : Int)).toNat + (if S.size = 0 then 1 else 0)
          rw [HSZ.out, if_neg (show ¬ 1 + S.size = 0 by omega)]
          split <;> omega
      · have hl0 : l = [] := hc.resolve_left hp
        have hm0 : m = 0 := by omega
        have he : S.toList.isEmpty = true := by rw [ByteArray.toList_eq, hS.out, hl0]; rfl
        have hS0 : S.size = 0 := by
          have := congrArg List.length hS.out
          rw [hl0] at this
          simpa using this
        have d1 : decide (0 < m) = false := decide_eq_false hp
        have HSZ := Lib.hid hsz
        have HS0 := Lib.hid hS0
        have HM0 := Lib.hid hm0
        clear hc hsz hS0 hm0 hl0
        go_wp2
        go_roundw
        case rel => exact ⟨m / 10, b :: l, _, rfl, by show _ = _; rw [str_cons hS.out], by go_num, by omega, HN, hb.alloc hz _⟩
        case measure =>
          show ((m : Int) / 10).toNat + (if ({ data := #[b] } ++ S : ByteArray).size = 0 then 1 else 0) < ((m : Int)).toNat + (if S.size = 0 then 1 else 0)
          rw [HSZ.out, if_neg (show ¬ 1 + S.size = 0 by omega), if_pos HS0.out]
          have := HM0.out
          omega
    · have hm0 : m = 0 := by rcases Nat.eq_zero_or_pos m with h | h; exact h; exact absurd (Or.inl h) hc
      have hl0 : l ≠ [] := fun h => hc (.inr h)
      have he : S.toList.isEmpty = false := by rw [ByteArray.toList_eq, hS.out]; cases l with | nil => exact absurd rfl hl0 | cons x l => rfl
      have HE := Lib.hid (text_end hi.out hm0 hl0)
      clear hc hl0
      subst hm0
      by_cases hn : n < 0
      · have hsz : ({ data := #[45] } ++ S : ByteArray).size = 1 + S.size := by rw [ByteArray.size_append]; rfl
        have HF : Hid (Lib.itoa n = 45 :: l) := by show _ = _; rw [HI.out, if_pos hn, HE.out]
        clear hsz
        go_wp2
        go_ret
        exact ⟨ret_str (by rw [HF.out, str_cons hS.out]), hb⟩
      · have HF : Hid (Lib.itoa n = l) := by show _ = _; rw [HI.out, if_neg hn, HE.out]
        go_wp2
        go_ret
        exact ⟨ret_str (by rw [HF.out, ← hS.out]), hb⟩
end Go.Proofs.YticohjhohbkmaaaDoor

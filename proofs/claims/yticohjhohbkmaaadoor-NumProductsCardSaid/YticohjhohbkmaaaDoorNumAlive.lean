/- Chapter 01: alive, by walking its text: the chapter's examples. -/
import Derived.Test.YticohjhohbkmaaaDoorNumW3
import Derived.Test.YticohjhohbkmaaaDoorNumW4
import Derived.Test.YticohjhohbkmaaaDoorNumW5
import Derived.Test.YticohjhohbkmaaaDoorNumMul
import Derived.Test.YticohjhohbkmaaaDoorNumSum
import Derived.Test.YticohjhohbkmaaaDoorNumP4
import Derived.Test.YticohjhohbkmaaaDoorNumT2
namespace Go.Proofs.YticohjhohbkmaaaDoor
open Go Go.RowKit Go.ChangeShapes

theorem TabP.below {w w' : World} (h : TabP w) (hb : Below w.heap.size w w') : TabP w' := by
  unfold TabP Lib.TabIs at *
  unfold World.var? at *
  have hg : Tryd.prog.globalNamed "internal/strconv.uint64pow10" = some 2 := by kernel_rfl
  rw [hg] at h ⊢
  simp only [Option.bind_some] at h ⊢
  have hlt : 2 < w.heap.size := by
    rcases Nat.lt_or_ge 2 w.heap.size with h' | h'
    · exact h'
    · rw [Array.getElem?_eq_none h'] at h; cases h
  rw [hb.block _ hlt]
  exact h
theorem TabP.qt {w w' : World} (h : TabP w) (hq : Qt w w') : TabP w' := h.below (hq.below _)
theorem al1 (w : World) : Calls Tryd.prog 12 #[.int .i64 7, .int .i64 (-2)] w (QRet (-4) 0 w) := floor_any 7 (-2) w (by decide) (by decide) (by decide) (by decide)
theorem al2 (w : World) : Calls Tryd.prog 14 #[.int .i64 7, .int .i64 (-2)] w (QRet (-3) 0 w) := ceil_any 7 (-2) w (by decide) (by decide) (by decide) (by decide)
theorem al3 (w : World) : Calls Tryd.prog 16 #[.int .i64 (-5), .int .i64 2] w (QRet (-2) 0 w) := round_any (-5) 2 w (by decide) (by decide) (by decide) (by decide)
theorem al4 (w : World) : Calls Tryd.prog 19 #[.int .i64 4611686018427387904, .int .i64 6, .int .i64 8] w (QRet 3458764513820540928 0 w) := mulDiv_any 4611686018427387904 6 8 w (by decide) (by decide) (by decide) (by decide) (by decide) (by decide)
theorem al5 (w : World) : Calls Tryd.prog 12 #[.int .i64 (-9223372036854775808), .int .i64 (-1)] w (QRet 0 21 w) := floor_any (-9223372036854775808) (-1) w (by decide) (by decide) (by decide) (by decide)
theorem al6 (w : World) (t : TypeId) : Calls Tryd.prog 24 #[.slice (some ⟨w.heap.size, 0, none⟩) 3 3] (w.alloc (.cells #[.int .i64 9223372036854775807, .int .i64 1, .int .i64 (-1)] t)) fun e w' => e = .returned (.tuple #[.int .i64 9223372036854775807, .int .i64 0]) ∧ w.alloc (.cells #[.int .i64 9223372036854775807, .int .i64 1, .int .i64 (-1)] t) = w' :=
  sum_any _ [9223372036854775807, 1, -1] _ (Blk.ints (Blk.new w t (intsArr [9223372036854775807, 1, -1])) (by intro x hx; simp at hx; rcases hx with rfl | rfl | rfl <;> (unfold inI64; decide)) (Nat.le_refl _) (by decide)) (by decide)
theorem al7 (w : World) : Calls Tryd.prog 27 #[.string ⟨#[45, 49, 50]⟩] w fun e w' => e = .returned (.tuple #[.int .i64 (-12), .int .i64 0]) ∧ w = w' := parse_any ⟨#[45, 49, 50]⟩ w (by decide)
theorem al8 (w : World) : Calls Tryd.prog 27 #[.string ⟨#[48, 49, 50]⟩] w fun e w' => e = .returned (.tuple #[.int .i64 0, .int .i64 5]) ∧ w = w' := parse_any ⟨#[48, 49, 50]⟩ w (by decide)
theorem al9 (w : World) : Calls Tryd.prog 21 #[.int .i64 (-12), .int .i64 18] w fun e w' => e = .returned (.int .i64 6) ∧ Qt w w' := by
  have := gcd_any (-12) 18 w (by decide) (by decide) (by decide) (by decide)
  rw [show gcdF (-12) 18 = 6 by kernel_rfl] at this; exact this
theorem al10 (w : World) : Calls Tryd.prog 23 #[.int .i64 99] w fun e w' => e = .returned (.int .i64 9) ∧ w = w' :=
  (root_any 99 w (by decide)).mono fun e w' h => by
    obtain ⟨r, h1, h2, h3, h4, h5⟩ := h
    have : r = 9 := by
      rcases Nat.lt_trichotomy r 9 with h | h | h
      · have := Nat.mul_le_mul (show r + 1 ≤ 9 by omega) (show r + 1 ≤ 9 by omega); omega
      · exact h
      · have := Nat.mul_le_mul (show 10 ≤ r by omega) (show 10 ≤ r by omega); omega
    subst this
    exact ⟨h1, h5⟩
theorem itoa12 : Lib.itoa (-12) = [45, 49, 50] := by
  unfold Lib.itoa
  rw [if_pos (by decide), show (-12 : Int).natAbs = 12 from rfl, Lib.decDigits_two (by omega) (by omega)]; rfl
theorem al11 (w : World) (hT : TabP w) : Calls Tryd.prog 26 #[.int .i64 (-12)] w (Ret (.string ⟨#[45, 49, 50]⟩) w) := by
  have := text_any (-12) w (by decide) (by decide) hT
  rw [itoa12] at this; exact this
set_option maxRecDepth 100000 in
set_option maxHeartbeats 4000000 in
theorem alive_any (w : World) (hT : TabP w) : Calls Tryd.prog 18 #[] w (Ret (.bool true) w) := by
  have HT := Lib.hid hT
  clear hT
  go_enter Tryd.func18, Tryd.ntmps18
  go_wp2_with fail
  refine (al1 _).mono ?_
  rintro e w1 ⟨rfl, q1⟩
  go_wp2_with fail
  refine (al2 _).mono ?_
  rintro e w2 ⟨rfl, hq⟩
  have q2 := q1.trans hq
  clear hq q1
  go_wp2_with fail
  refine (al3 _).mono ?_
  rintro e w3 ⟨rfl, hq⟩
  have q3 := q2.trans hq
  clear hq q2
  go_wp2_with fail
  refine (al4 _).mono ?_
  rintro e w4 ⟨rfl, hq⟩
  have q4 := q3.trans hq
  clear hq q3
  go_wp2_with fail
  refine (al5 _).mono ?_
  rintro e w5 ⟨rfl, hq⟩
  have q5 := q4.trans hq
  clear hq q4
  have b5 := q5.below w.heap.size
  clear q5
  go_wp2_with fail
  refine (al6 _ _).mono ?_
  rintro e w6 ⟨rfl, rfl⟩
  have b6 := b5.alloc b5.size (.cells #[.int .i64 9223372036854775807, .int .i64 1, .int .i64 (-1)] 3)
  clear b5
  generalize w5.alloc (.cells #[.int .i64 9223372036854775807, .int .i64 1, .int .i64 (-1)] 3) = w6 at *
  go_wp2_with fail
  refine (al7 _).mono ?_
  rintro e w7 ⟨rfl, rfl⟩
  go_wp2_with fail
  refine (al8 _).mono ?_
  rintro e w8 ⟨rfl, rfl⟩
  go_wp2_with fail
  refine (al9 _).mono ?_
  rintro e w9 ⟨rfl, hq⟩
  have b9 := bstep b6 b6.size (hq.below _)
  clear hq b6
  go_wp2_with fail
  refine (al10 _).mono ?_
  rintro e w10 ⟨rfl, rfl⟩
  go_wp2_with fail
  refine (al11 _ (HT.out.below b9)).mono ?_
  rintro e w11 ⟨rfl, hb⟩
  go_wp2_with fail
  go_ret
  exact ⟨rfl, bstep b9 b9.size hb⟩
end Go.Proofs.YticohjhohbkmaaaDoor

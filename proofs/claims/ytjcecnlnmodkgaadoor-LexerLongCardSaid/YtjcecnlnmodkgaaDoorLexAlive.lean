/- Chapter 07: alive, by walking its text: the chapter's examples. -/
import Derived.Test.YtjcecnlnmodkgaaDoorLexP2
import Derived.Test.YtjcecnlnmodkgaaDoorLexR6
namespace Go.Proofs.YtjcecnlnmodkgaaDoor
open Go Go.RowKit

def exL : List Lx := [(1, [97, 49], 0, 0), (4, [45, 62], 0, 3), (2, [53], 5, 6), (4, [59], 0, 7), (0, [], 0, 8)]
def exC : Array Value := #[.int .i64 1, .string ⟨#[97, 49]⟩, .int .i64 0, .int .i64 0, .int .i64 4, .string ⟨#[45, 62]⟩, .int .i64 0, .int .i64 3, .int .i64 2, .string ⟨#[53]⟩, .int .i64 5, .int .i64 6, .int .i64 4, .string ⟨#[59]⟩, .int .i64 0, .int .i64 7, .int .i64 0, .string ⟨#[]⟩, .int .i64 0, .int .i64 8]
theorem exScan : scanS [97, 49, 32, 45, 62, 32, 53, 59] = (exL, 0, 0) := by kernel_rfl
theorem exScan2 : scanS [97, 32, 63] = ([], 5, 2) := by kernel_rfl
theorem exQuote : quoteF [97, 34, 10] = ([34, 97, 92, 34, 92, 110, 34], 0) := by kernel_rfl
theorem exPrint : printF exL = [97, 49, 32, 45, 62, 32, 53, 32, 59] := by
  have h : Lib.itoa 5 = [53] := by
    unfold Lib.itoa
    rw [if_neg (by decide), show (5 : Int).toNat = 5 from rfl, Lib.decDigits, dif_pos (by decide)]; rfl
  unfold printF exL
  simp [wordF, h, joinW]
theorem al1 (w : World) : Calls Tryd.prog 12 #[.string ⟨#[97, 49, 32, 45, 62, 32, 53, 59]⟩] w fun e w' => ∃ v, e = .returned (.tuple #[v, .int .i64 0, .int .i64 0]) ∧ Rep.lx.slice.R w' (Lt w') exL [v] ∧ Below w.heap.size w w' := by
  have := scan_any ⟨#[97, 49, 32, 45, 62, 32, 53, 59]⟩ w (by decide)
  unfold ScanPost at this
  rw [show (⟨#[97, 49, 32, 45, 62, 32, 53, 59]⟩ : ByteArray).data.toList = [97, 49, 32, 45, 62, 32, 53, 59] from rfl, exScan] at this
  exact this
theorem al2 (w : World) (v : Value) (h : Rep.lx.slice.R w (Lt w) exL [v]) : Calls Tryd.prog 14 #[v, .slice (some ⟨w.heap.size, 0, none⟩) 5 5] (w.alloc (.cells exC 35)) fun e w' => e = .returned (.tuple #[.bool true, .bool true]) ∧ Qt (w.alloc (.cells exC 35)) w' := by
  refine same_eq _ _ exL _ (Rep.below h ((Below.refl _ _).alloc (Nat.le_refl _) _)) ?_
  exact Blk.slice_enc (E := Rep.lx) (enc := lxC) (fun _ => rfl) (Blk.new w 35 exC) (by rfl) (fun _ _ => rfl) (Nat.le_refl _) (by decide)
theorem al3 (w : World) : Calls Tryd.prog 12 #[.string ⟨#[97, 32, 63]⟩] w fun e w' => ∃ v, e = .returned (.tuple #[v, .int .i64 5, .int .i64 2]) ∧ Rep.lx.slice.R w' (Lt w') [] [v] ∧ Below w.heap.size w w' := by
  have := scan_any ⟨#[97, 32, 63]⟩ w (by decide)
  unfold ScanPost at this
  rw [show (⟨#[97, 32, 63]⟩ : ByteArray).data.toList = [97, 32, 63] from rfl, exScan2] at this
  exact this
theorem al4 (w : World) : Calls Tryd.prog 15 #[.string ⟨#[97, 34, 10]⟩] w fun e w' => e = .returned (.tuple #[.string ⟨#[34, 97, 92, 34, 92, 110, 34]⟩, .int .i64 0]) ∧ Below w.heap.size w w' := by
  have := quote_any ⟨#[97, 34, 10]⟩ w (by decide)
  unfold QuoteRet at this
  rw [show (⟨#[97, 34, 10]⟩ : ByteArray).data.toList = [97, 34, 10] from rfl, exQuote] at this
  exact this
theorem al5 (w : World) (v : Value) (h : Rep.lx.slice.R w (Lt w) exL [v]) (hT : TabP w) : Calls Tryd.prog 17 #[v] w (Ret (.string ⟨#[97, 49, 32, 45, 62, 32, 53, 32, 59]⟩) w) := by
  have := print_any v exL w h ⟨by decide, by
    intro x hx
    simp [exL] at hx
    rcases hx with rfl | rfl | rfl | rfl | rfl <;> exact ⟨by decide, by unfold inI64; decide⟩⟩ hT
  rw [exPrint] at this; exact this
theorem al6 (w : World) : Calls Tryd.prog 19 #[.string ⟨#[45, 62]⟩] w fun e w' => e = .returned (.bool true) ∧ w = w' := isMark_any ⟨#[45, 62]⟩ w (by decide)
theorem al7 (w : World) : Calls Tryd.prog 19 #[.string ⟨#[63]⟩] w fun e w' => e = .returned (.bool false) ∧ w = w' := isMark_any ⟨#[63]⟩ w (by decide)
set_option maxRecDepth 100000 in
set_option maxHeartbeats 4000000 in
theorem alive_any (w : World) (hT : TabP w) : Calls Tryd.prog 11 #[] w (Ret (.bool true) w) := by
  have HT := Lib.hid hT
  clear hT
  go_enter Tryd.func11, Tryd.ntmps11
  go_wp2_with fail
  refine (al1 _).mono ?_
  rintro e w1 ⟨v, rfl, hr1, b1⟩
  go_wp2_with fail
  refine (al2 w1 v hr1).mono ?_
  rintro e w2 ⟨rfl, q2⟩
  have b2a : Below w1.heap.size w1 w2 := ((Below.refl w1.heap.size w1).alloc (Nat.le_refl _) (.cells exC 35)).trans (q2.below _)
  have hr2 := Rep.below hr1 b2a
  have b2 := bstep b1 b1.size b2a
  clear q2 b2a hr1 b1
  go_wp2_with fail
  refine (al3 _).mono ?_
  rintro e w3 ⟨v3, rfl, -, b3a⟩
  have hr3 := Rep.below hr2 b3a
  have b3 := bstep b2 b2.size b3a
  clear b3a hr2 b2
  go_wp2_with fail
  refine (al4 _).mono ?_
  rintro e w4 ⟨rfl, b4a⟩
  have hr4 := Rep.below hr3 b4a
  have b4 := bstep b3 b3.size b4a
  clear b4a hr3 b3
  go_wp2_with fail
  refine (al5 _ v hr4 (HT.out.below b4)).mono ?_
  rintro e w5 ⟨rfl, b5a⟩
  have b5 := bstep b4 b4.size b5a
  clear b5a b4
  go_wp2_with fail
  refine (al6 _).mono ?_
  rintro e w6 ⟨rfl, rfl⟩
  go_wp2_with fail
  refine (al7 _).mono ?_
  rintro e w6 ⟨rfl, rfl⟩
  go_wp2_with fail
  go_ret
  exact ⟨rfl, b5⟩
end Go.Proofs.YtjcecnlnmodkgaaDoor

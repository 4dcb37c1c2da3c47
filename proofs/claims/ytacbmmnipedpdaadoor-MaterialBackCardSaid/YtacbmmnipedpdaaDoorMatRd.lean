/- Chapter 15: what Parse answers to the text of a right catalog. -/
import Derived.Test.YtacbmmnipedpdaaDoorMatSt
import Derived.Test.YtacbmmnipedpdaaDoorMatLaws
namespace Go.Proofs.YtacbmmnipedpdaaDoor
open Go Go.RowKit

theorem format_ok {m : Mat} (h : checkM m = 0) : formatM m = (textM m, 0) := by unfold formatM; simp [h]
theorem reads_back {m : Mat} (h : checkM m = 0) : parseM (textM m) = (m, 0, 0) := by
  have := mat_back (n := 0) (by omega) h (pre := []) (fun r => rfl) (by simp)
  rw [wide_zero] at this
  exact this
theorem text_short {m : Mat} (h : checkM m = 0) : (textM m).length ≤ 7600 := by
  have := text_len15 (n := 0) (by omega) h
  rw [wide_zero] at this
  omega
theorem parse_any15 (l : List UInt8) (r : Mat × Int × Int) (hl : l.length ≤ 20000) (hp : parseM l = r) (w : World) : Calls Tryd.prog 24 #[.string (bA l)] w (ParseP15 r w) := by
  have h := matParse_any (bA l) w (by rw [bA_size]; omega)
  rw [bA_list, hp] at h
  exact h
end Go.Proofs.YtacbmmnipedpdaaDoor

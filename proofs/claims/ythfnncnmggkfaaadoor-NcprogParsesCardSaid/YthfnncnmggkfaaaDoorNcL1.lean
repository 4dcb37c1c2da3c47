/- Chapter 27: the laws NcprogTexts and NcprogParses, by walking their text. -/
import Derived.Test.YthfnncnmggkfaaaDoorNcAvM
import Derived.Test.YthfnncnmggkfaaaDoorLexW3M
import Derived.Test.YthfnncnmggkfaaaDoorNcR2
import Derived.Test.YthfnncnmggkfaaaDoorNcOpM
namespace Go.Proofs.YthfnncnmggkfaaaDoor
open Go Go.RowKit

set_option maxRecDepth 100000 in
set_option maxHeartbeats 2000000 in
theorem nc_texts_law (vl : Value) (l : List Stp) (w : World) (hT : TabP w) (hl : stR.slice.R w (Lt w) l [vl]) :
    Calls Tryd.prog 4 #[vl] w (Ret (.bool true) w) := by
  obtain ⟨A, c, rfl, hm, -⟩ := slice_inv hl
  have HT := Lib.hid hT
  clear hT
  by_cases h : 300 < l.length
  · have h' : (300 : Int) < (l.length : Int) := by omega
    clear h
    go_enter Tryd.func4, Tryd.ntmps4
    go_wp2_with fail
    refine (alive_any _ HT.out).mono ?_
    rintro e w1 ⟨rfl, hb1⟩
    go_wp2
    go_ret
    exact ⟨rfl, hb1⟩
  · have h' : ¬ (300 : Int) < (l.length : Int) := by omega
    have C1 := Lib.hid (ncText_any _ l w hl (by omega) HT.out)
    have C2 := Lib.hid (fun w1 (hb : Below w.heap.size w w1) => refText27_any _ l w1 (Rep.below hl hb) (by omega))
    clear h
    generalize (⟨(textF l).toArray⟩ : ByteArray) = T at *
    go_enter Tryd.func4, Tryd.ntmps4
    go_wp2_with fail
    refine C1.out.mono ?_
    rintro e w1 ⟨rfl, hb1⟩
    go_wp2_with fail
    refine (C2.out _ hb1).mono ?_
    rintro e w2 ⟨rfl, hb2⟩
    have hbw2 := bstep hb1 hb1.size hb2
    have hT2 := HT.out.below hbw2
    clear hb1 hb2
    go_wp2_with fail
    refine (alive_any _ hT2).mono ?_
    rintro e w3 ⟨rfl, hb3⟩
    have hbw3 := bstep hbw2 hbw2.size hb3
    clear hT2
    go_wp2
    go_ret
    exact ⟨rfl, hbw3⟩
set_option maxRecDepth 100000 in
set_option maxHeartbeats 2000000 in
theorem nc_parses_law (s : ByteArray) (w : World) (hT : TabP w) :
    Calls Tryd.prog 5 #[.string s] w (Ret (.bool true) w) := by
  have HT := Lib.hid hT
  clear hT
  by_cases h : 3000 < s.size
  · have h' : (3000 : Int) < (s.size : Int) := by omega
    clear h
    go_enter Tryd.func5, Tryd.ntmps5
    go_wp2_with fail
    refine (alive_any _ HT.out).mono ?_
    rintro e w1 ⟨rfl, hb1⟩
    go_wp2
    go_ret
    exact ⟨rfl, hb1⟩
  · have h' : ¬ (3000 : Int) < (s.size : Int) := by omega
    have hz : s.size ≤ 140737488350000 := by omega
    have C1 := Lib.hid (fun w => ncParse_any s w hz)
    have C2 := Lib.hid (fun w => refParse27_any s w hz)
    clear h hz
    generalize parseF s.data.toList = r at *
    obtain ⟨l, er, at_⟩ := r
    go_enter Tryd.func5, Tryd.ntmps5
    go_wp2_with fail
    refine (C1.out _).mono ?_
    rintro e w1 ⟨v1, rfl, hl1, hb1⟩
    go_wp2_with fail
    refine (C2.out _).mono ?_
    rintro e w2 ⟨v2, rfl, hl2, hb2⟩
    have hl1 := Rep.below hl1 hb2
    have hbw2 := bstep hb1 hb1.size hb2
    clear hb1 hb2
    go_wp2_with fail
    refine (same27_any _ _ _ _ _ hl1 hl2).mono ?_
    rintro e w3 ⟨rfl, hb3⟩
    have hbw3 := bstep hbw2 hbw2.size hb3
    have hT3 := HT.out.below hbw3
    clear hbw2 hb3 hl2
    rw [show decide (l = l) = true from by simp]
    go_wp2_with fail
    refine (alive_any _ hT3).mono ?_
    rintro e w4 ⟨rfl, hb4⟩
    have hbw4 := bstep hbw3 hbw3.size hb4
    clear hT3
    go_wp2
    go_ret
    exact ⟨rfl, hbw4⟩
theorem texts_card (v : Value) (l : List Stp) (w : World) (hT : TabP w) (hl : stR.slice.R w (Lt w) l [v]) (_ : True) :
    Calls Tryd.prog 4 #[v] w (Ret (.bool true) w) := nc_texts_law v l w hT hl
theorem parses_card (s x : ByteArray) (w : World) (hT : TabP w) (_ : Rep.str.R w (Lt w) x (Value.string s).cells.toList) (_ : StrN x) :
    Calls Tryd.prog 5 #[.string s] w (Ret (.bool true) w) := nc_parses_law s w hT
end Go.Proofs.YthfnncnmggkfaaaDoor

/- Chapter 27: the law NcprogMakes, by walking its text. -/
import Derived.Test.YthfnncnmggkfaaaDoorNcAvM
import Derived.Test.YthfnncnmggkfaaaDoorNcWAM
import Derived.Test.YthfnncnmggkfaaaDoorTorFew
import Derived.Test.YthfnncnmggkfaaaDoorNcOpM
namespace Go.Proofs.YthfnncnmggkfaaaDoor
open Go Go.RowKit

theorem few_smallR {l : List Shp} (h : fewF l = true) : SmallR l := by
  intro c hc
  obtain ⟨i, k, h1, h2, -, rfl⟩ := mem_contours.1 hc
  obtain ⟨-, h3⟩ := few_facts h
  have hg : l.getD i default = l[i] := by simp [List.getD_eq_getElem?_getD, List.getElem?_eq_getElem h1]
  obtain ⟨h4, -, h6⟩ := h3 l[i] (List.getElem_mem h1)
  show (ringOf (l.getD i default) k).length ≤ 1000
  rw [hg] at h2 ⊢
  unfold ringOf
  split
  · omega
  · have hk : k - 1 < (l[i]).2.length := by omega
    rw [List.getD_eq_getElem?_getD, List.getElem?_eq_getElem hk]
    have := h6 _ (List.getElem_mem hk)
    simp only [Option.getD_some]
    omega
set_option maxRecDepth 100000 in
set_option maxHeartbeats 2000000 in
theorem nc_makes_law (vs vo : Value) (shapes : List Shp) (order : List Pt) (w : World) (hT : TabP w) (hs : shpsR.R w (Lt w) shapes [vs]) (ho : prR.slice.R w (Lt w) order [vo]) :
    Calls Tryd.prog 3 #[vs, vo] w (Ret (.bool true) w) := by
  obtain ⟨A, c, rfl, hm, -⟩ := slice_inv hs
  obtain ⟨B, d, rfl, hmo, -⟩ := slice_inv ho
  have HT := Lib.hid hT
  have CF := Lib.hid (few_any _ shapes w hs)
  clear hT
  rcases Bool.eq_false_or_eq_true (fewF shapes) with hf | hf
  · have hS := few_small hf
    have hR := few_smallR hf
    rw [hf] at CF
    by_cases h : 300 < order.length
    · have h' : (300 : Int) < (order.length : Int) := by omega
      clear h hf hS hR
      go_enter Tryd.func3, Tryd.ntmps3
      go_wp2_with fail
      refine CF.out.mono ?_
      rintro e w1 ⟨rfl, hb1⟩
      have hT1 := HT.out.below hb1
      go_wp2_with fail
      refine (alive_any _ hT1).mono ?_
      rintro e w2 ⟨rfl, hb2⟩
      have hbw2 := bstep hb1 hb1.size hb2
      clear hT1
      go_wp2
      go_ret
      exact ⟨rfl, hbw2⟩
    · have h' : ¬ (300 : Int) < (order.length : Int) := by omega
      have C1 := Lib.hid (fun w1 (hb : Below w.heap.size w w1) => make_any _ _ shapes order w1 (Rep.below hs hb) (Rep.below ho hb) hS hR)
      have C2 := Lib.hid (fun w1 (hb : Below w.heap.size w w1) => refMake_any _ _ shapes order w1 (Rep.below hs hb) (Rep.below ho hb) hS hR)
      clear h hf hS hR
      generalize makeF shapes order = r at *
      obtain ⟨l, er⟩ := r
      go_enter Tryd.func3, Tryd.ntmps3
      go_wp2_with fail
      refine CF.out.mono ?_
      rintro e w1 ⟨rfl, hb1⟩
      go_wp2_with fail
      refine (C1.out _ hb1).mono ?_
      rintro e w2 ⟨v1, rfl, hl1, hb2⟩
      have hbw2 := bstep hb1 hb1.size hb2
      clear hb1 hb2
      go_wp2_with fail
      refine (C2.out _ hbw2).mono ?_
      rintro e w3 ⟨v2, rfl, hl2, hb3⟩
      have hl1 := Rep.below hl1 hb3
      have hbw3 := bstep hbw2 hbw2.size hb3
      clear hbw2 hb3
      go_wp2_with fail
      refine (same27_any _ _ _ _ _ hl1 hl2).mono ?_
      rintro e w4 ⟨rfl, hb4⟩
      have hbw4 := bstep hbw3 hbw3.size hb4
      have hT4 := HT.out.below hbw4
      clear hbw3 hb4 hl2
      rw [show decide (l = l) = true from by simp]
      go_wp2_with fail
      refine (alive_any _ hT4).mono ?_
      rintro e w5 ⟨rfl, hb5⟩
      have hbw5 := bstep hbw4 hbw4.size hb5
      clear hT4
      go_wp2
      go_ret
      exact ⟨rfl, hbw5⟩
  · rw [hf] at CF
    clear hf
    go_enter Tryd.func3, Tryd.ntmps3
    go_wp2_with fail
    refine CF.out.mono ?_
    rintro e w1 ⟨rfl, hb1⟩
    have hT1 := HT.out.below hb1
    go_wp2_with fail
    refine (alive_any _ hT1).mono ?_
    rintro e w2 ⟨rfl, hb2⟩
    have hbw2 := bstep hb1 hb1.size hb2
    clear hT1
    go_wp2
    go_ret
    exact ⟨rfl, hbw2⟩
theorem makes_card (vs vo : Value) (shapes : List Shp) (order : List Pt) (w : World) (hT : TabP w) (hs : shpsR.R w (Lt w) shapes [vs]) (_ : True) (ho : prR.slice.R w (Lt w) order [vo]) (_ : True) :
    Calls Tryd.prog 3 #[vs, vo] w (Ret (.bool true) w) := nc_makes_law vs vo shapes order w hT hs ho
end Go.Proofs.YthfnncnmggkfaaaDoor

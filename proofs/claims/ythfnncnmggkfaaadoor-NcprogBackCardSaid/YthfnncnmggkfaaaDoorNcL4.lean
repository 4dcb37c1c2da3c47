/- Chapter 27: the law NcprogBack, by walking its text. -/
import Derived.Test.YthfnncnmggkfaaaDoorNcAvM
import Derived.Test.YthfnncnmggkfaaaDoorNcBackM
import Derived.Test.YthfnncnmggkfaaaDoorNcOpM
namespace Go.Proofs.YthfnncnmggkfaaaDoor
open Go Go.RowKit

set_option maxRecDepth 100000 in
set_option maxHeartbeats 2000000 in
theorem nc_back_law (vl : Value) (l : List Stp) (w : World) (hT : TabP w) (hl : stR.slice.R w (Lt w) l [vl]) :
    Calls Tryd.prog 8 #[vl] w (Ret (.bool true) w) := by
  obtain ⟨A, c, rfl, hm, -⟩ := slice_inv hl
  have HT := Lib.hid hT
  clear hT
  by_cases h : 300 < l.length
  · have h' : (300 : Int) < (l.length : Int) := by omega
    clear h
    go_enter Tryd.func8, Tryd.ntmps8
    go_wp2_with fail
    refine (alive_any _ HT.out).mono ?_
    rintro e w1 ⟨rfl, hb1⟩
    go_wp2
    go_ret
    exact ⟨rfl, hb1⟩
  · have h' : ¬ (300 : Int) < (l.length : Int) := by omega
    have CR := Lib.hid (right_any _ l w hl)
    rcases Bool.eq_false_or_eq_true (l.all rightS) with ha | ha
    · have HB := Lib.hid (nc_back ha (by omega))
      have hlen := textF_len48 ha
      have hlen : (textF l).length ≤ 14400 := by omega
      have C1 := Lib.hid (fun w1 (hb : Below w.heap.size w w1) hT => ncText_any _ l w1 (Rep.below hl hb) (by omega) hT)
      rw [ha] at CR
      clear h ha
      obtain ⟨T, hTx⟩ : ∃ T : ByteArray, T = ⟨(textF l).toArray⟩ := ⟨_, rfl⟩
      rw [← hTx] at C1
      have hsz : T.size ≤ 14400 := by rw [hTx]; show (textF l).toArray.size ≤ _; simpa using hlen
      have HTX := Lib.hid hTx
      clear hTx hlen
      go_enter Tryd.func8, Tryd.ntmps8
      go_wp2_with fail
      refine CR.out.mono ?_
      rintro e w1 ⟨rfl, hb1⟩
      go_wp2_with fail
      refine (C1.out _ hb1 (HT.out.below hb1)).mono ?_
      rintro e w2 ⟨rfl, hb2⟩
      have hbw2 := bstep hb1 hb1.size hb2
      clear hb1 hb2
      have hS : ((⟨#[35, 32, 112, 114, 111, 103, 114, 97, 109, 10]⟩ : ByteArray) ++ T).data.toList = headT ++ textF l := by
        rw [HTX.out]; simp [headT]
      have hS2 : ((⟨#[35, 32, 112, 114, 111, 103, 114, 97, 109, 10]⟩ : ByteArray) ++ T).size ≤ 140737488350000 := by
        rw [ByteArray.size_append]
        show 10 + T.size ≤ _
        omega
      have C2 := Lib.hid (fun w => ncParse_any _ w hS2)
      rw [hS, HB.out] at C2
      have HS := Lib.hid hS
      clear hS hS2
      go_wp2_with fail
      refine (C2.out _).mono ?_
      rintro e w3 ⟨v1, he, hl1, hb3⟩
      have he : e = .returned (.tuple #[v1, .int .i64 0, .int .i64 0]) := he
      subst he
      have hl1 : stR.slice.R w3 (Lt w3) l [v1] := hl1
      have hbw3 := bstep hbw2 hbw2.size hb3
      have hlw := Rep.below hl hbw3
      clear hbw2 hb3
      go_wp2_with fail
      refine (same27_any _ _ _ _ _ hlw hl1).mono ?_
      rintro e w4 ⟨rfl, hb4⟩
      have hbw4 := bstep hbw3 hbw3.size hb4
      have hT4 := HT.out.below hbw4
      clear hbw3 hb4 hl1 hlw
      rw [show decide (l = l) = true from by simp]
      go_wp2_with fail
      refine (alive_any _ hT4).mono ?_
      rintro e w5 ⟨rfl, hb5⟩
      have hbw5 := bstep hbw4 hbw4.size hb5
      clear hT4
      go_wp2
      go_ret
      exact ⟨rfl, hbw5⟩
    · rw [ha] at CR
      clear h ha
      go_enter Tryd.func8, Tryd.ntmps8
      go_wp2_with fail
      refine CR.out.mono ?_
      rintro e w1 ⟨rfl, hb1⟩
      go_wp2_with fail
      refine (alive_any _ (HT.out.below hb1)).mono ?_
      rintro e w2 ⟨rfl, hb2⟩
      have hbw2 := bstep hb1 hb1.size hb2
      go_wp2
      go_ret
      exact ⟨rfl, hbw2⟩
theorem back_card (v : Value) (l : List Stp) (w : World) (hT : TabP w) (hl : stR.slice.R w (Lt w) l [v]) (_ : True) :
    Calls Tryd.prog 8 #[v] w (Ret (.bool true) w) := nc_back_law v l w hT hl
end Go.Proofs.YthfnncnmggkfaaaDoor

/- Chapter 07: Quote of the reference, by walking its text. -/
import Derived.Test.YtjcecnlnmodkgaaDoorLexQ1
namespace Go.Proofs.YtjcecnlnmodkgaaDoor
open Go Go.RowKit

theorem bl_lt {c : UInt8} (h : lxPl c = false) (h1 : ((c.toNat : Int) == 34) = false) (h2 : ((c.toNat : Int) == 92) = false) : (c.toNat : Int) < 32 ∨ (¬ (c.toNat : Int) < 32 ∧ (126 : Int) < (c.toNat : Int)) := by
  rw [lxPl_int, h1, h2] at h
  simp at h
  omega
theorem new2_cells (w : World) (a b : Value) (e : TypeId) : ∀ j x, [a, b][j]? = some x → (w.alloc (.cells #[a, b] e)).cell? ((⟨w.heap.size, 0, none⟩ : Addr).add j) = some x := by
  intro j x hj
  match j, hj with
  | 0, hj => simp at hj; subst hj; simp [Addr.add]
  | 1, hj => simp at hj; subst hj; simp [Addr.add]
theorem ownB_one (w : World) (c : UInt8) : OwnB (w.alloc (.cells #[.int .u8 (c.toNat : Int)] 5)) w.heap.size (.slice (some ⟨w.heap.size, 0, none⟩) 1 1) [c] :=
  ⟨rfl, .inr ⟨w.heap.size, 1, #[.int .u8 (c.toNat : Int)], rfl, Nat.le_refl _, heap_alloc_new w _, Nat.le_refl _, by unfold maxLen; omega, rfl, rfl⟩⟩
theorem ownB_two {w : World} {base : Nat} {v : Value} {l : List UInt8} {c d : UInt8} (h : w.ownsRow base 5 1 v (l.length + 2) (Lib.byteCells l ++ [.int .u8 (c.toNat : Int), .int .u8 (d.toNat : Int)])) : OwnB w base v (l ++ [c, d]) := by
  unfold OwnB
  rw [List.length_append, Lib.byteCells_append]
  exact h
set_option maxRecDepth 100000 in
set_option maxHeartbeats 4000000 in
theorem refQuote_any (s : ByteArray) (w : World) (hz : s.size ≤ 70368744177000) : Calls Tryd.prog 16 #[.string s] w (QuoteRet s w) := by
  obtain ⟨i0, hinf, hz0, hz1, hz2⟩ := info_parts byte_info
  go_enter Tryd.func16, Tryd.ntmps16
  go_wp2_with fail
  go_loopw [4, 5] (fun o i wr => ∃ (k : Nat) (acc : List UInt8), k ≤ s.size ∧ i = .int .i64 k ∧ OwnB wr w.heap.size o acc ∧ Below w.heap.size w wr ∧ acc.length ≤ 2 * k + 1 ∧ Hid ((s.data.toList.take k).all qtC = true) ∧ Hid (acc = 34 :: (s.data.toList.take k).flatMap esc)) (fun _ i _ => s.size - (intOf i).toNat)
  case atStart => exact ⟨0, [34], by omega, rfl, ownB_one w 34, (Below.refl w.heap.size w).alloc (Nat.le_refl _) _, by simp, by show _ = _; simp, by show _ = _; simp⟩
  case round =>
    obtain ⟨k, acc, hk, rfl, hown, hbw, hal, hA, hE⟩ := hrel
    have hsz := hbw.size
    have hbl := Lib.byteCells_length acc
    by_cases hlt : k < s.size
    · obtain ⟨c, t, -, hc, -⟩ := drop_at (D := s.data.toList) (k := k) (by rw [size_list]; exact hlt)
      have hsk := byte_at hlt hc
      have hcb := UInt8.toNat_lt c
      have HES := Lib.hid (esc_step hc)
      have HA := fun h => Lib.hid (all_take_succ hA.out hc h)
      have HBAD := fun h => Lib.hid (quote_bad hc h)
      have hel := esc_len c
      clear hc
      rcases qt_cases (c := c) with ⟨p1, p2, p3⟩ | ⟨p1, p2, p3, p4⟩ | ⟨p1, p2, p3, p4, p5⟩ | ⟨p1, p2, p3, p4, p5, p6⟩ | ⟨p1, p2, p3, p4, p5⟩
      · have HA' := HA p2
        rw [p3] at HES
        obtain ⟨g1, g2, g3, g4⟩ := pl_int p1
        have g5 : ((c.toNat : Int) == 92) = false := by rw [bne] at g4; simpa using g4
        have g6 : ((c.toNat : Int) == 10) = false := ieq_f (by omega)
        clear HA HBAD p1 p2 p3 hel g4
        go_wp2_with (at_builtin; refine wpList_append_own _ rfl _ _ 30 rfl w.heap.size 5 i0 (.int .u8 0) 1 1 Tryd.underlying30 hinf hz0 hz1 hz2 rfl (by decide) _ _ _ rfl (World.ownsRow.alloc hown _) ⟨wr.heap.size, 0, none⟩ 1 1 [.int .u8 (c.toNat : Int)] rfl rfl (new1_cells _ _ _) (one_oneCell rfl) (by unfold maxLen; omega) (by omega) (by simp; omega) ?_)
        intro v2 w2 hown2 hg2 _
        have hown3 := ownB_snoc hown2
        have hbw2 := (hbw.alloc hsz _).grown hg2 (by simp; omega) (fun j hj => (World.ownsRow.lt hown j hj).1)
        clear hown2 hg2
        go_wp2_with fail
        go_roundw
        case rel => exact ⟨k + 1, acc ++ [c], by omega, by go_num, hown3, hbw2, by simp; omega, HA', by show _ = _; rw [HES.out, hE.out]⟩
        case measure => simp [intOf] <;> omega
      · have HA' := HA p3
        rw [p4] at HES
        have g1 : ((c.toNat : Int) == 10) = false := ieq_f (by have := of_decide_eq_true p2; omega)
        have g2 : ¬ (c.toNat : Int) < 32 := by have := of_decide_eq_true p2; omega
        have g3 : ¬ (126 : Int) < (c.toNat : Int) := by have := of_decide_eq_true p2; omega
        clear HA HBAD p1 p3 p4 hel
        go_wp2_with (at_builtin; refine wpList_append_own _ rfl _ _ 30 rfl w.heap.size 5 i0 (.int .u8 0) 1 1 Tryd.underlying30 hinf hz0 hz1 hz2 rfl (by decide) _ _ _ rfl (World.ownsRow.alloc hown _) ⟨wr.heap.size, 0, none⟩ 1 1 [.int .u8 92] rfl rfl (new1_cells _ _ _) (one_oneCell rfl) (by unfold maxLen; omega) (by omega) (by simp; omega) ?_)
        intro v2 w2 hown2 hg2 _
        have hown3 := ownB_snoc (c := 92) hown2
        have hbw2 := (hbw.alloc hsz _).grown hg2 (by simp; omega) (fun j hj => (World.ownsRow.lt hown j hj).1)
        have hsz2 := hbw2.size
        have hbl2 := Lib.byteCells_length (acc ++ [92])
        have hal2 : (acc ++ [92]).length ≤ 2 * k + 2 := by simp; omega
        clear hown2 hg2 hown
        go_wp2_with (at_builtin; refine wpList_append_own _ rfl _ _ 30 rfl w.heap.size 5 i0 (.int .u8 0) 1 1 Tryd.underlying30 hinf hz0 hz1 hz2 rfl (by decide) _ _ _ rfl (World.ownsRow.alloc hown3 _) ⟨w2.heap.size, 0, none⟩ 1 1 [.int .u8 (c.toNat : Int)] rfl rfl (new1_cells _ _ _) (one_oneCell rfl) (by unfold maxLen; omega) (by omega) (by simp; omega) ?_)
        intro v3 w3 hown4 hg3 _
        have hown5 := ownB_snoc (l := acc ++ [92]) (by rw [List.length_append]; exact hown4)
        have hbw3 := (hbw2.alloc hsz2 _).grown hg3 (by simp; omega) (fun j hj => (World.ownsRow.lt hown3 j hj).1)
        clear hown4 hg3
        go_wp2_with fail
        go_roundw
        case rel => exact ⟨k + 1, acc ++ [92] ++ [c], by omega, by go_num, hown5, hbw3, by simp; omega, HA', by show _ = _; rw [HES.out, hE.out]; simp⟩
        case measure => simp [intOf] <;> omega
      · have HA' := HA p4
        rw [p5] at HES
        have g1 : ((c.toNat : Int) == 10) = false := ieq_f (by have := of_decide_eq_true p3; omega)
        have g2 : ¬ (c.toNat : Int) < 32 := by have := of_decide_eq_true p3; omega
        have g3 : ¬ (126 : Int) < (c.toNat : Int) := by have := of_decide_eq_true p3; omega
        clear HA HBAD p1 p4 p5 hel
        go_wp2_with (at_builtin; refine wpList_append_own _ rfl _ _ 30 rfl w.heap.size 5 i0 (.int .u8 0) 1 1 Tryd.underlying30 hinf hz0 hz1 hz2 rfl (by decide) _ _ _ rfl (World.ownsRow.alloc hown _) ⟨wr.heap.size, 0, none⟩ 1 1 [.int .u8 92] rfl rfl (new1_cells _ _ _) (one_oneCell rfl) (by unfold maxLen; omega) (by omega) (by simp; omega) ?_)
        intro v2 w2 hown2 hg2 _
        have hown3 := ownB_snoc (c := 92) hown2
        have hbw2 := (hbw.alloc hsz _).grown hg2 (by simp; omega) (fun j hj => (World.ownsRow.lt hown j hj).1)
        have hsz2 := hbw2.size
        have hbl2 := Lib.byteCells_length (acc ++ [92])
        have hal2 : (acc ++ [92]).length ≤ 2 * k + 2 := by simp; omega
        clear hown2 hg2 hown
        go_wp2_with (at_builtin; refine wpList_append_own _ rfl _ _ 30 rfl w.heap.size 5 i0 (.int .u8 0) 1 1 Tryd.underlying30 hinf hz0 hz1 hz2 rfl (by decide) _ _ _ rfl (World.ownsRow.alloc hown3 _) ⟨w2.heap.size, 0, none⟩ 1 1 [.int .u8 (c.toNat : Int)] rfl rfl (new1_cells _ _ _) (one_oneCell rfl) (by unfold maxLen; omega) (by omega) (by simp; omega) ?_)
        intro v3 w3 hown4 hg3 _
        have hown5 := ownB_snoc (l := acc ++ [92]) (by rw [List.length_append]; exact hown4)
        have hbw3 := (hbw2.alloc hsz2 _).grown hg3 (by simp; omega) (fun j hj => (World.ownsRow.lt hown3 j hj).1)
        clear hown4 hg3
        go_wp2_with fail
        go_roundw
        case rel => exact ⟨k + 1, acc ++ [92] ++ [c], by omega, by go_num, hown5, hbw3, by simp; omega, HA', by show _ = _; rw [HES.out, hE.out]; simp⟩
        case measure => simp [intOf] <;> omega
      · have HA' := HA p5
        rw [p6] at HES
        clear HA HBAD p1 p2 p3 p5 p6 hel
        go_wp2_with (at_builtin; refine wpList_append_own _ rfl _ _ 30 rfl w.heap.size 5 i0 (.int .u8 0) 1 1 Tryd.underlying30 hinf hz0 hz1 hz2 rfl (by decide) _ _ _ rfl (World.ownsRow.alloc hown _) ⟨wr.heap.size, 0, none⟩ 2 2 [.int .u8 92, .int .u8 110] rfl rfl (new2_cells _ _ _ _) (by intro u hu; simp at hu; rcases hu with rfl | rfl <;> rfl) (by unfold maxLen; omega) (by omega) (by simp; omega) ?_)
        intro v2 w2 hown2 hg2 _
        have hown3 := ownB_two (c := 92) (d := 110) hown2
        have hbw2 := (hbw.alloc hsz _).grown hg2 (by simp; omega) (fun j hj => (World.ownsRow.lt hown j hj).1)
        clear hown2 hg2
        go_wp2_with fail
        go_roundw
        case rel => exact ⟨k + 1, acc ++ [92, 110], by omega, by go_num, hown3, hbw2, by simp; omega, HA', by show _ = _; rw [HES.out, hE.out]⟩
        case measure => simp [intOf] <;> omega
      · have HB := HBAD p5
        have g := bl_lt p1 p2 p3
        clear HA HBAD p1 p5 hel HES
        rcases g with g | ⟨g, g2⟩
        all_goals
          go_wp2_with fail
          go_ret2
          unfold QuoteRet
          rw [HB.out]
          exact ⟨rfl, hbw⟩
    · obtain rfl : k = s.size := by omega
      have HG : Hid (quoteF s.data.toList = (acc ++ [34], 0)) := quote_good (by rw [size_list]; exact hA.out) (by rw [size_list]; exact hE.out)
      clear hA hE
      go_wp2_with (at_builtin; refine wpList_append_own _ rfl _ _ 30 rfl w.heap.size 5 i0 (.int .u8 0) 1 1 Tryd.underlying30 hinf hz0 hz1 hz2 rfl (by decide) _ _ _ rfl (World.ownsRow.alloc hown _) ⟨wr.heap.size, 0, none⟩ 1 1 [.int .u8 34] rfl rfl (new1_cells _ _ _) (one_oneCell rfl) (by unfold maxLen; omega) (by omega) (by simp; omega) ?_)
      intro v2 w2 hown2 hg2 _
      have hown3 := ownB_snoc (c := 34) hown2
      have hbw2 := (hbw.alloc hsz _).grown hg2 (by simp; omega) (fun j hj => (World.ownsRow.lt hown j hj).1)
      have hcv := conv_own hown3
      clear hown2 hg2
      go_wp2_with fail
      go_ret2
      unfold QuoteRet
      rw [HG.out]
      exact ⟨rfl, hbw2⟩
end Go.Proofs.YtjcecnlnmodkgaaDoor

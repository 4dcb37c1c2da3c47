/- Chapter 07: Scan of the reference, by walking its text. -/
import Derived.Test.YtjcecnlnmodkgaaDoorLexR5
namespace Go.Proofs.YtjcecnlnmodkgaaDoor
open Go Go.RowKit

set_option maxRecDepth 100000 in
set_option maxHeartbeats 4000000 in
theorem refScan_any (s : ByteArray) (w : World) (hz : s.size ≤ 140737488350000) : Calls Tryd.prog 13 #[.string s] w (ScanPost s.data.toList w) := by
  by_cases hbig : 16384 < s.size
  · have HS : Hid (scanS s.data.toList = ([], 4, 16384)) := by show _ = _; unfold scanS; rw [if_pos (by rw [size_list]; exact hbig)]
    go_enter Tryd.func13, Tryd.ntmps13
    go_wp2_with fail
    go_ret3
    unfold ScanPost
    rw [HS.out]
    exact ⟨_, rfl, Rep.slice_nil _ _ _, Below.refl _ _⟩
  have HS : Hid (scanS s.data.toList = scanF 0 s.data.toList) := by show _ = _; unfold scanS; rw [if_neg (by rw [size_list]; exact hbig)]
  obtain ⟨i0, hi, hz0, hz1, hz2⟩ := info_parts lx_info
  go_enter Tryd.func13, Tryd.ntmps13
  go_wp2_with fail
  refine (refSkip_any s 0 _ (by omega) (by omega)).mono ?_
  rintro e w1 ⟨j0, rfl, hj0, hjd0, rfl⟩
  have H0 := Lib.hid (ScAt.start hj0 hjd0)
  clear hjd0
  go_wp2_with fail
  go_loopw [5, 6] (fun l i wr => ∃ (k : Nat) (acc : List Lx), k ≤ s.size ∧ i = .int .i64 k ∧ acc.length ≤ k ∧ OwnLx wr w.heap.size l acc ∧ Below w.heap.size w wr ∧ Hid (ScAt s acc k)) (fun _ i _ => s.size - (intOf i).toNat)
  case atStart => exact ⟨j0, [], hj0, rfl, by simp, World.ownsRow_nil _ _ _ _, Below.refl _ _, H0⟩
  case round =>
    obtain ⟨k, acc, hk, rfl, hal, hown, hbw, hA⟩ := hrel
    have hsz := hbw.size
    by_cases hlt : k < s.size
    · obtain ⟨c, t, hd, -, -⟩ := drop_at (D := s.data.toList) (k := k) (by rw [size_list]; exact hlt)
      have CN := Lib.hid (fun w => refOne_any s k c t w (by omega) hd)
      obtain ⟨k1, k2, k3, k4, k5, k6, hO, hC, hk5, hk6⟩ := oneX_cells (lxOne (c :: t)) k
      rw [hO] at CN
      have HC := Lib.hid hC
      have HD := Lib.hid hd
      have hlen := one_len c t
      have hct : t.length + 1 = s.size - k := by
        have := congrArg List.length hd
        rw [List.length_drop, size_list, List.length_cons] at this; exact this.symm
      by_cases ho : (lxOne (c :: t)).2.2.2.2 = 0
      · obtain ⟨hl1, hl2⟩ := hlen
        have hp := hl2 ho
        have hk60 : k6 = 0 := by rw [hk6, ho]
        obtain ⟨n, hn⟩ : ∃ n, n = k + (lxOne (c :: t)).2.2.2.1 := ⟨_, rfl⟩
        have hk5n : k5 = (n : Int) := by rw [hk5, hn]; omega
        have HSTEP : Hid (∀ j, j ≤ s.size → s.data.toList.drop j = lxSkip false (s.data.toList.drop n) → ScAt s (acc ++ [oneX (lxOne (c :: t)) k]) j ∧ n ≤ j) := fun j hj hjd => by
          have hnb : n ≤ s.size := by omega
          refine ⟨?_, skip_ge (by rw [size_list]; exact hj) (by rw [size_list]; exact hnb) hjd⟩
          rw [hn] at hjd
          exact hA.out.step HD.out ho hj hjd
        have hnb : n ≤ s.size := by omega
        have hnk : k < n := by omega
        clear hd hO hC hk5 hl1 hl2 hp ho hk6 hct hn hA
        subst hk60
        subst hk5n
        generalize oneX (lxOne (c :: t)) k = x at *
        have CS := Lib.hid (fun w => refSkip_any s n w (by omega) hnb)
        go_wp2_with fail
        refine (CN.out _).mono ?_
        rintro e w1 ⟨rfl, hb1⟩
        have hown1 := own_below hown hb1
        have hs1 := hb1.size
        go_wp2_with (at_builtin; refine wpList_append_own _ rfl _ _ 23 rfl w.heap.size 35 i0 (.agg #[.int .i64 0, .string ⟨#[]⟩, .int .i64 0, .int .i64 0]) 4 40 Tryd.underlying23 hi hz0 hz1 hz2 rfl (by decide) _ _ _ rfl (World.ownsRow.alloc (World.ownsRow.alloc hown1 _) _) ⟨w1.heap.size + 1, 0, none⟩ 1 1 [.int .i64 k1, .string k2, .int .i64 k3, .int .i64 k4] rfl rfl (by simpa using new4_cells (w1.alloc (.cells #[.int .i64 k1, .string k2, .int .i64 k3, .int .i64 k4] 35)) (.int .i64 k1) (.string k2) (.int .i64 k3) (.int .i64 k4) 35) (by rw [← HC.out]; exact lx_one x) (by unfold maxLen; omega) (by omega) (by simp; omega) ?_)
        intro v2 w2 hown2 hg2 _
        rw [← HC.out] at hown2
        have hown3 := ownLx_snoc hown2
        have hbw1 := hbw.trans (hb1.mono hsz)
        have hbw2 := ((hbw1.alloc (by omega) (.cells #[.int .i64 k1, .string k2, .int .i64 k3, .int .i64 k4] 35)).alloc (by simp; omega) (.cells #[.int .i64 k1, .string k2, .int .i64 k3, .int .i64 k4] 35)).grown hg2 (by simp; omega) (fun j hj => (World.ownsRow.lt hown1 j hj).1)
        clear hown2 hg2
        go_wp2_with fail
        refine (CS.out _).mono ?_
        rintro e w3 ⟨j, rfl, hj, hjd, rfl⟩
        obtain ⟨hS, hnj⟩ := HSTEP.out j hj hjd
        have HS3 := Lib.hid hS
        clear hjd hS
        go_wp2_with fail
        go_roundw
        case rel => exact ⟨j, acc ++ [x], hj, rfl, by simp; omega, hown3, hbw2, HS3⟩
        case measure => simp [intOf] <;> omega
      · have HB := Lib.hid (hA.out.bad HD.out ho)
        rw [← hk5, ← hk6] at HB
        have hk60 : (k6 != 0) = true := ine_t (by rw [hk6]; exact ho)
        clear hd hO hC hk5 hk6 hlen ho hct hA
        go_wp2_with fail
        refine (CN.out _).mono ?_
        rintro e w1 ⟨rfl, hb1⟩
        go_wp2_with fail
        go_ret3
        unfold ScanPost
        rw [HS.out, HB.out]
        exact ⟨_, rfl, Rep.slice_nil _ _ _, (hbw.trans (hb1.mono hsz)).alloc (by have := hb1.size; omega) _⟩
    · obtain rfl : k = s.size := by omega
      have HB := Lib.hid (hA.out.done rfl)
      clear hA
      go_wp2_with (at_builtin; refine wpList_append_own _ rfl _ _ 23 rfl w.heap.size 35 i0 (.agg #[.int .i64 0, .string ⟨#[]⟩, .int .i64 0, .int .i64 0]) 4 40 Tryd.underlying23 hi hz0 hz1 hz2 rfl (by decide) _ _ _ rfl (World.ownsRow.alloc hown _) ⟨wr.heap.size, 0, none⟩ 1 1 [.int .i64 0, .string ⟨#[]⟩, .int .i64 0, .int .i64 (s.size : Int)] rfl rfl (new4_cells wr (.int .i64 0) (.string ⟨#[]⟩) (.int .i64 0) (.int .i64 (s.size : Int)) 35) (lx_one (0, [], 0, (s.size : Int))) (by unfold maxLen; omega) (by omega) (by simp; omega) ?_)
      intro v2 w2 hown2 hg2 _
      have hown3 := ownLx_snoc (x := (0, [], 0, (s.size : Int))) hown2
      have hbw2 := (hbw.alloc hsz _).grown hg2 (by simp; omega) (fun j hj => (World.ownsRow.lt hown j hj).1)
      clear hown2 hg2
      go_wp2_with fail
      go_ret3
      unfold ScanPost
      rw [HS.out, HB.out]
      exact ⟨_, rfl, ownLx_rep hown3, hbw2⟩
end Go.Proofs.YtjcecnlnmodkgaaDoor

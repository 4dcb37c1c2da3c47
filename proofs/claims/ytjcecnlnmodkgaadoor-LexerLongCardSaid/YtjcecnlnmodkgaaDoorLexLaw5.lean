/- Chapter 07: the law LexerLong, by walking its text. -/
import Derived.Test.YtjcecnlnmodkgaaDoorLexLaw4
namespace Go.Proofs.YtjcecnlnmodkgaaDoor
open Go Go.RowKit Go.ChangeShapes

def bArr (L : List UInt8) : Array Value := (Lib.byteCells L).toArray
theorem bArr_get {L : List UInt8} {k : Nat} (h : k < L.length) : (bArr L)[k]? = some (.int .u8 (L[k].toNat : Int)) := by
  unfold bArr Lib.byteCells
  simp [h]
theorem bArr_set (L : List UInt8) (i : Nat) (c : UInt8) : (bArr L).setIfInBounds i (.int .u8 (c.toNat : Int)) = bArr (L.set i c) := by
  unfold bArr Lib.byteCells
  simp [List.map_set]
theorem bArr_rep (n : Nat) : Array.replicate n (Value.int .u8 0) = bArr (List.replicate n 0) := by
  unfold bArr Lib.byteCells
  simp
theorem conv_blk {W : World} {g N : Nat} {L : List UInt8} (h : Blk W g 5 (bArr L)) (hl : L.length = N) : (convert 30 9 (.slice (some ⟨g, 0, none⟩) N N)).run Tryd.prog W = .ok (.string ⟨L.toArray⟩) W := by
  subst hl
  exact run_convert_bytes_back W _ _ _ _ _ L Tryd.underlying30 Tryd.underlying5 Tryd.underlying9 (fun j hj => by
    have := h.cell j
    rw [bArr_get hj] at this
    rw [← this]; congr 1; unfold Addr.add; split <;> simp_all)
theorem byte_info2 : (Tryd.prog.info? 5).map (fun i => (i.zero, i.size, i.bytes)) = some (some (.int .u8 0), 1, 1) := byte_info
theorem scan_e4 (L : List UInt8) : ((scanS L).2.1 == 4) = decide (16384 < L.length) := by
  unfold scanS
  by_cases h : 16384 < L.length
  · rw [if_pos h, decide_eq_true h]; rfl
  · rw [if_neg h, decide_eq_false h]
    by_cases he : (scanF 0 L).2.1 = 0
    · rw [he]; rfl
    · obtain ⟨_, _, _, h4⟩ := scan_err _ 0 L (Nat.le_refl _) he
      rcases h4 with h4 | h4 | h4 <;> rw [h4] <;> rfl
set_option maxRecDepth 100000 in
set_option maxHeartbeats 8000000 in
theorem long_law (a : Int) (s : ByteArray) (a' : Int) (x : ByteArray) (w : World) (hT : TabP w) (ha : Rep.int.R w (Lt w) a' (Value.int .i64 a).cells.toList) (_ : True) (hs : Rep.str.R w (Lt w) x (Value.string s).cells.toList) (hz : StrZ x) :
    Calls Tryd.prog 4 #[.int .i64 a, .string s] w (Ret (.bool true) w) := by
  obtain ⟨rfl, a0, a1⟩ := i64_inv ha
  obtain rfl := str_inv hs
  have hz' : s.size ≤ 140737488351232 := hz
  clear hs hz ha
  have HT := Lib.hid hT
  clear hT
  by_cases hin : -20 ≤ a ∧ a ≤ 20 ∧ s.size ≤ 20
  · obtain ⟨h1, h2, h3⟩ := hin
    clear a0 a1 hz'
    obtain ⟨N, hN⟩ : ∃ N : Nat, 16384 + a = (N : Int) := ⟨(16384 + a).toNat, by omega⟩
    have hN1 : 16364 ≤ N := by omega
    have hN2 : N ≤ 16404 := by omega
    have hmk := fun W => run_make1 (P := Tryd.prog) Tryd.underlying30 byte_info2 rfl N (by omega) (by omega) W
    rw [bArr_rep] at hmk
    have HBIG : Hid ((16384 < N ∧ 0 < a) ∨ (¬ 16384 < N ∧ ¬ 0 < a)) := by show _ ∨ _; omega
    go_enter Tryd.func4, Tryd.ntmps4
    go_wp2_with fail
    go_loopw [6] (fun i wr => ∃ (k : Nat) (L : List UInt8), k ≤ N ∧ i = .int .i64 k ∧ Hid (L.length = N) ∧ Blk wr w.heap.size 5 (bArr L) ∧ Below w.heap.size w wr) (fun i _ => N - (intOf i).toNat)
    case atStart => exact ⟨0, List.replicate N 0, by omega, rfl, by show _ = _; simp, Blk.new w 5 _, (Below.refl w.heap.size w).alloc (Nat.le_refl _) _⟩
    case round =>
      obtain ⟨k, L, hk, rfl, hL, hblk, hbw⟩ := hrel
      by_cases hlt : k < N
      · have hc : wr.cell? ⟨w.heap.size, k, none⟩ = some (.int .u8 ((L[k]'(by rw [hL.out]; exact hlt)).toNat : Int)) := by rw [hblk.cell, bArr_get]
        have hf := hblk.free k
        have hblk2 := hblk.set_ k (.int .u8 ((35 : UInt8).toNat : Int))
        rw [bArr_set] at hblk2
        have HL : Hid ((L.set k 35).length = N) := by show _ = _; rw [List.length_set]; exact hL.out
        have hbw2 := hbw.setCell (p := ⟨w.heap.size, k, none⟩) (Nat.le_refl _) (.int .u8 35)
        generalize (L[k]'(by rw [hL.out]; exact hlt)).toNat = cc at hc
        clear hblk hmk
        go_wp2_with fail
        go_roundw
        case rel => exact ⟨k + 1, L.set k 35, by omega, by go_num, HL, hblk2, hbw2⟩
        case measure => simp [intOf] <;> omega
      · obtain rfl : k = N := by omega
        clear hk hlt
        obtain ⟨wo, hwo⟩ : ∃ wo : World, wo = wr := ⟨_, rfl⟩
        subst hwo
        go_wp2_with fail
        go_loopw [7] (fun i wr => ∃ (m : Nat) (L : List UInt8), m ≤ s.size ∧ i = .int .i64 m ∧ Hid (L.length = k) ∧ Blk wr w.heap.size 5 (bArr L) ∧ Below w.heap.size w wr) (fun i _ => s.size - (intOf i).toNat)
        case atStart => exact ⟨0, L, by omega, rfl, hL, hblk, hbw⟩
        case round =>
          clear hblk hbw hL hmk
          obtain ⟨m, M, hm, rfl, hM, hblk, hbw⟩ := hrel
          by_cases hlt : m < s.size
          · obtain ⟨j, hj⟩ : ∃ j : Nat, j = k - 1 - m := ⟨_, rfl⟩
            obtain ⟨i2, hi2⟩ : ∃ i2 : Nat, i2 = s.size - 1 - m := ⟨_, rfl⟩
            have hjk : j < k := by omega
            have hi2s : i2 < s.size := by omega
            have j1 : (k : Int) - 1 - (m : Int) = (j : Int) := by omega
            have j2 : k - 1 - m = j := by omega
            have j3 : (s.size : Int) - 1 - (m : Int) = (i2 : Int) := by omega
            have j4 : s.size - 1 - m = i2 := by omega
            obtain ⟨c, hcc⟩ : ∃ c, s[i2] = c := ⟨_, rfl⟩
            have hc : wr.cell? ⟨w.heap.size, j, none⟩ = some (.int .u8 ((M[j]'(by rw [hM.out]; exact hjk)).toNat : Int)) := by rw [hblk.cell, bArr_get]
            have hf := hblk.free j
            have hblk2 := hblk.set_ j (.int .u8 (c.toNat : Int))
            rw [bArr_set] at hblk2
            have HL : Hid ((M.set j c).length = k) := by show _ = _; rw [List.length_set]; exact hM.out
            have hbw2 := hbw.setCell (p := ⟨w.heap.size, j, none⟩) (Nat.le_refl _) (.int .u8 (c.toNat : Int))
            generalize (M[j]'(by rw [hM.out]; exact hjk)).toNat = cc at hc
            clear hblk hj hi2
            go_wp2_with fail
            go_roundw
            case rel => exact ⟨m + 1, M.set j c, by omega, by go_num, HL, hblk2, hbw2⟩
            case measure => simp [intOf] <;> omega
          · obtain rfl : m = s.size := by omega
            clear hm hlt
            by_cases hs0 : 0 < s.size
            · obtain ⟨j, hj⟩ : ∃ j : Nat, j = k - 1 - s.size := ⟨_, rfl⟩
              have hjk : j < k := by omega
              have j1 : (k : Int) - 1 - (s.size : Int) = (j : Int) := by omega
              have j2 : k - 1 - s.size = j := by omega
              have hsk : (s.size : Int) < (k : Int) := by omega
              have hc : wr.cell? ⟨w.heap.size, j, none⟩ = some (.int .u8 ((M[j]'(by rw [hM.out]; exact hjk)).toNat : Int)) := by rw [hblk.cell, bArr_get]
              have hf := hblk.free j
              have hblk2 : Blk (wr.setCell ⟨w.heap.size, j, none⟩ (.int .u8 10)) w.heap.size 5 (bArr (M.set j 10)) := by
                have h4 := hblk.set_ j (.int .u8 ((10 : UInt8).toNat : Int))
                rw [bArr_set] at h4
                exact h4
              have HL : Hid ((M.set j 10).length = k) := by show _ = _; rw [List.length_set]; exact hM.out
              have hbw2 := hbw.setCell (p := ⟨w.heap.size, j, none⟩) (Nat.le_refl _) (.int .u8 10)
              generalize (M[j]'(by rw [hM.out]; exact hjk)).toNat = cc at hc
              clear hblk hj hbw
              have hcv := conv_blk hblk2 HL.out
              have hblkP := hblk2
              have hbwF := hbw2
              have hsF : (⟨(M.set j 10).toArray⟩ : ByteArray).size = k := by rw [← size_list]; exact HL.out
              have he4 := scan_e4 (M.set j 10)
              have hlF : (M.set j 10).length = k := HL.out
              rw [hlF] at he4
              have C1 := Lib.hid (fun w => scan_any ⟨(M.set j 10).toArray⟩ w (by omega))
              have C2 := Lib.hid (fun w => refScan_any ⟨(M.set j 10).toArray⟩ w (by omega))
              unfold ScanPost at C1 C2
              rw [show (⟨(M.set j 10).toArray⟩ : ByteArray).data.toList = M.set j 10 from rfl] at C1 C2
              obtain ⟨r, hr⟩ : ∃ r, scanS (M.set j 10) = r := ⟨_, rfl⟩
              rw [hr] at C1 C2 he4
              obtain ⟨l, e1, p1⟩ := r
              obtain ⟨T, hTT⟩ : ∃ T : ByteArray, T = ⟨(M.set j 10).toArray⟩ := ⟨_, rfl⟩
              rw [← hTT] at C1 C2 hcv
              have HTT := Lib.hid hTT
              have q1 := beq_self_int e1
              have q2 := beq_self_int p1
              have hcs : ((e1 == 4) = true ∧ decide (0 < a) = true) ∨ ((e1 == 4) = false ∧ decide (0 < a) = false) := by
                rcases HBIG.out with ⟨g1, g2⟩ | ⟨g1, g2⟩
                · exact .inl ⟨by rw [he4]; exact decide_eq_true g1, decide_eq_true g2⟩
                · exact .inr ⟨by rw [he4]; exact decide_eq_false g1, decide_eq_false (by omega)⟩
              clear hr hTT he4 hsF hlF
              rcases hcs with ⟨g1, g2⟩ | ⟨g1, g2⟩
              all_goals
                go_wp2_with fail
                refine (C1.out _).mono ?_
                rintro e w1 ⟨v1, rfl, r1, b1a⟩
                have b1 := bstep hbwF hbwF.size b1a
                have hcv2 := conv_blk (Blk.below hblkP b1a hblkP.lt) HL.out
                rw [← HTT.out] at hcv2
                go_wp2_with fail
                refine (C2.out _).mono ?_
                rintro e w2 ⟨v2, rfl, r2, b2a⟩
                have r1' := Rep.below r1 b2a
                have b2 := bstep b1 b1.size b2a
                have C3 := Lib.hid (same_eq v1 v2 l w2 r1' r2)
                clear b2a b1 r1 b1a hcv2
                go_wp2_with fail
                refine C3.out.mono ?_
                rintro e w3 ⟨rfl, u3⟩
                have b3 := bstep b2 b2.size (u3.below w2.heap.size)
                have HT6 := Lib.hid (HT.out.below b3)
                clear u3 b2
                go_wp2_with fail
                refine (alive_any _ HT6.out).mono ?_
                rintro e w7 ⟨rfl, hb⟩
                go_wp2_with fail
                go_ret
                exact ⟨rfl, bstep b3 b3.size hb⟩
            · have hs1 : s.size = 0 := by omega
              have hs2 : ¬ (0 : Int) < (s.size : Int) := by omega
              have hsk : (s.size : Int) < (k : Int) := by omega
              clear hs0 hs1
              have hcv := conv_blk hblk hM.out
              have hblkP := hblk
              have hbwF := hbw
              have hsF : (⟨(M).toArray⟩ : ByteArray).size = k := by rw [← size_list]; exact hM.out
              have he4 := scan_e4 (M)
              have hlF : (M).length = k := hM.out
              rw [hlF] at he4
              have C1 := Lib.hid (fun w => scan_any ⟨(M).toArray⟩ w (by omega))
              have C2 := Lib.hid (fun w => refScan_any ⟨(M).toArray⟩ w (by omega))
              unfold ScanPost at C1 C2
              rw [show (⟨(M).toArray⟩ : ByteArray).data.toList = M from rfl] at C1 C2
              obtain ⟨r, hr⟩ : ∃ r, scanS (M) = r := ⟨_, rfl⟩
              rw [hr] at C1 C2 he4
              obtain ⟨l, e1, p1⟩ := r
              obtain ⟨T, hTT⟩ : ∃ T : ByteArray, T = ⟨(M).toArray⟩ := ⟨_, rfl⟩
              rw [← hTT] at C1 C2 hcv
              have HTT := Lib.hid hTT
              have q1 := beq_self_int e1
              have q2 := beq_self_int p1
              have hcs : ((e1 == 4) = true ∧ decide (0 < a) = true) ∨ ((e1 == 4) = false ∧ decide (0 < a) = false) := by
                rcases HBIG.out with ⟨g1, g2⟩ | ⟨g1, g2⟩
                · exact .inl ⟨by rw [he4]; exact decide_eq_true g1, decide_eq_true g2⟩
                · exact .inr ⟨by rw [he4]; exact decide_eq_false g1, decide_eq_false (by omega)⟩
              clear hr hTT he4 hsF hlF
              rcases hcs with ⟨g1, g2⟩ | ⟨g1, g2⟩
              all_goals
                go_wp2_with fail
                refine (C1.out _).mono ?_
                rintro e w1 ⟨v1, rfl, r1, b1a⟩
                have b1 := bstep hbwF hbwF.size b1a
                have hcv2 := conv_blk (Blk.below hblkP b1a hblkP.lt) hM.out
                rw [← HTT.out] at hcv2
                go_wp2_with fail
                refine (C2.out _).mono ?_
                rintro e w2 ⟨v2, rfl, r2, b2a⟩
                have r1' := Rep.below r1 b2a
                have b2 := bstep b1 b1.size b2a
                have C3 := Lib.hid (same_eq v1 v2 l w2 r1' r2)
                clear b2a b1 r1 b1a hcv2
                go_wp2_with fail
                refine C3.out.mono ?_
                rintro e w3 ⟨rfl, u3⟩
                have b3 := bstep b2 b2.size (u3.below w2.heap.size)
                have HT6 := Lib.hid (HT.out.below b3)
                clear u3 b2
                go_wp2_with fail
                refine (alive_any _ HT6.out).mono ?_
                rintro e w7 ⟨rfl, hb⟩
                go_wp2_with fail
                go_ret
                exact ⟨rfl, bstep b3 b3.size hb⟩
  · have hcs : a < -20 ∨ (¬ a < -20 ∧ 20 < a) ∨ (¬ a < -20 ∧ ¬ 20 < a ∧ 20 < s.size) := by omega
    clear hin
    rcases hcs with h | ⟨h, h2⟩ | ⟨h, h2, h3⟩
    all_goals
      go_enter Tryd.func4, Tryd.ntmps4
      go_wp2_with fail
      refine (alive_any _ HT.out).mono ?_
      rintro e w7 ⟨rfl, hb⟩
      go_wp2_with fail
      go_ret
      exact ⟨rfl, hb⟩
end Go.Proofs.YtjcecnlnmodkgaaDoor

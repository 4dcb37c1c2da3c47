/- Chapter 07: one of the reference at a mark, by walking its text. -/
/- Chapter 07: Scan of the reference, by walking its text. -/
import Derived.Test.YthfnncnmggkfaaaDoorLexR4
namespace Go.Proofs.YthfnncnmggkfaaaDoor
open Go Go.RowKit

set_option maxRecDepth 100000 in
set_option maxHeartbeats 4000000 in
theorem refOne_mark (s : ByteArray) (i : Nat) (c : UInt8) (t : List UInt8) (w : World) (hz : s.size ≤ 1000000000) (hd : s.data.toList.drop i = c :: t) (h1 : lxLet c = false) (h2 : isDig c = false) (h34 : (c == 34) = false) :
    Calls Tryd.prog 61 #[.string s, .int .i64 (i : Int)] w (Ret (oneV (lxOne (c :: t)) i) w) := by
  have hlen : s.size - i = t.length + 1 := by
    have := congrArg List.length hd
    rw [List.length_drop, size_list, List.length_cons] at this; exact this
  have hi : i < s.size := by omega
  have hc0 : s.data.toList[i]? = some c := by
    have : (s.data.toList.drop i)[0]? = some c := by rw [hd]; rfl
    rw [List.getElem?_drop] at this; exact this
  have hsi := byte_at hi hc0
  have e34 : ((c.toNat : Int) == 34) = false := u8ne (k := 34) (by decide) h34
  have HO : Hid (lxOne (c :: t) = if (c == 45 && t.head? == some 62) = true then (4, [45, 62], 0, 2, 0) else if lxMk c = true then (4, [c], 0, 1, 0) else (0, [], 0, 0, 5)) := by
    show _ = _; rw [lxOne, if_neg (by rw [h1]; simp), if_neg (by rw [h2]; simp), if_neg (by rw [h34]; simp)]
  obtain ⟨ba, hba⟩ : ∃ ba, (c == 45 && t.head? == some 62) = ba := ⟨_, rfl⟩
  obtain ⟨bm, hbm⟩ : ∃ bm, lxMk c = bm := ⟨_, rfl⟩
  have hm1 : (s.extract i (i + 1)).data.toList = [c] := by rw [extract_list, hd, show i + 1 - i = 1 by omega]; rfl
  have CM1 := Lib.hid (fun w => refIsMark_any (s.extract i (i + 1)) w (by rw [← size_list, hm1]; simp))
  rw [hm1, show isMkF [c] = lxMk c from by simp [isMkF], hbm] at CM1
  have hex : s.extract i (i + 1) = ⟨#[c]⟩ := by rw [extract_eq, hd, show i + 1 - i = 1 by omega]; rfl
  have HEX := Lib.hid hex
  -- two bytes
  have CM2 : Hid (i + 2 ≤ s.size → ∀ w, Calls Tryd.prog 89 #[.string (s.extract i (i + 2))] w fun e w' => e = .returned (.bool ba) ∧ Qt w w') := fun hle w => by
    have hm2 : isMkF (s.extract i (i + 2)).data.toList = ba := by
      rw [extract_list, hd, show i + 2 - i = 2 by omega, ← hba]
      cases t with
      | nil => simp at hlen; omega
      | cons d u =>
        show isMkF [c, d] = _
        unfold isMkF
        rw [Bool.eq_iff_iff]; simp
    have := refIsMark_any (s.extract i (i + 2)) w (by rw [← size_list, extract_list, List.length_take]; omega)
    rw [hm2] at this; exact this
  have hex2 : ba = true → s.extract i (i + 2) = ⟨#[45, 62]⟩ ∧ i + 2 ≤ s.size := fun hb => by
    rw [hb, Bool.and_eq_true] at hba
    cases t with
    | nil => simp at hba
    | cons d u =>
      have ec : c = 45 := by simpa using hba.1
      have ed : d = 62 := by simpa using hba.2
      refine ⟨?_, by simp at hlen; omega⟩
      rw [extract_eq, hd, show i + 2 - i = 2 by omega, ec, ed]; rfl
  rw [hba, hbm] at HO
  have HR : Hid (oneV (lxOne (c :: t)) i = if ba = true then .tuple #[.agg #[.int .i64 4, .string (s.extract i (i + 2)), .int .i64 0, .int .i64 i], .int .i64 ((i : Int) + 2), .int .i64 0] else if bm = true then .tuple #[.agg #[.int .i64 4, .string (s.extract i (i + 1)), .int .i64 0, .int .i64 i], .int .i64 ((i : Int) + 1), .int .i64 0] else
      .tuple #[.agg #[.int .i64 0, .string ⟨#[]⟩, .int .i64 0, .int .i64 0], .int .i64 (i : Int), .int .i64 5]) := by
    show _ = _
    rw [HO.out]
    cases ba with
    | true => rw [if_pos rfl, if_pos rfl, (hex2 rfl).1]; simp [oneV, oneX, lxV]
    | false => cases bm with
      | true => rw [if_neg (by simp), if_pos rfl, if_neg (by simp), if_pos rfl, HEX.out]; simp [oneV, oneX, lxV]
      | false => rw [if_neg (by simp), if_neg (by simp), if_neg (by simp), if_neg (by simp)]; simp [oneV, oneX, lxV]
  have hle2 : ba = true → i + 2 ≤ s.size := fun h => (hex2 h).2
  have HLE := Lib.hid hle2
  clear hd hc0 hm1 hex hba hbm hex2 hle2 HO HEX h34 hlen
  go_enter Tryd.func61, Tryd.ntmps61
  go_wp2_with (first | (go_at_call 83; refine (refLetter_any c _).mono ?_; rintro e w' ⟨rfl, rfl⟩) | (go_at_call 86; refine (refDigit_any c _).mono ?_; rintro e w' ⟨rfl, rfl⟩))
  obtain ⟨w0, hw0⟩ : ∃ w0, w0 = (w.alloc (.cells lx0 90)).alloc (.cells lx0 90) := ⟨_, rfl⟩
  have hb0 : Below w.heap.size w w0 := by rw [hw0]; exact ((Below.refl w.heap.size w).alloc (Nat.le_refl _) _).alloc (by simp) _
  have hblk0 : Blk w0 w.heap.size 90 lx0 := by rw [hw0]; exact (Blk.new w 90 lx0).alloc _
  have hblk10 : Blk w0 (w.heap.size + 1) 90 lx0 := by
    rw [hw0]
    have := Blk.new (w.alloc (.cells lx0 90)) 90 lx0
    rw [show (w.alloc (.cells lx0 90)).heap.size = w.heap.size + 1 from by simp] at this
    exact this
  go_loopw [15] (fun n wr => ∃ k : Nat, n = .int .i64 k ∧ k ≤ 2 ∧ (k < 2 → ba = false) ∧ (k < 1 → bm = false) ∧ Qt w0 wr) (fun n _ => (intOf n).toNat)
  case atStart => exact ⟨2, rfl, Nat.le_refl _, fun h => absurd h (by omega), fun h => absurd h (by omega), by rw [hw0]; exact Qt.refl _⟩
  case round =>
    obtain ⟨k, rfl, hk, hka, hkm, hq⟩ := hrel
    have hbw := hb0.trans (hq.below w.heap.size)
    have hblk := hblk0.qt hq
    have hblk1 := hblk10.qt hq
    have hlt0 := hblk.lt
    obtain ⟨q0, q1, q2, q3, f0, f1, f2, f3⟩ := lx_cells hblk
    obtain ⟨r0, r1, r2, r3, g0, g1, g2, g3⟩ := lx_cells hblk1
    have hcs : k = 2 ∨ (k = 1 ∧ ba = false) ∨ (k = 0 ∧ ba = false ∧ bm = false) := by
      rcases Nat.lt_or_ge k 2 with h | h
      · rcases Nat.lt_or_ge k 1 with h' | h'
        · exact .inr (.inr ⟨by omega, hka h, hkm h'⟩)
        · exact .inr (.inl ⟨by omega, hka h⟩)
      · exact .inl (by omega)
    clear hka hkm q0 q1 q2 q3 f0 f1 f2 f3 r0 r1 r2 r3 g0 g1 g2 g3
    rcases hcs with rfl | ⟨rfl, hba0⟩ | ⟨rfl, hba0, hbm0⟩
    · by_cases hle : i + 2 ≤ s.size
      · have CM : Hid (∀ w, Calls Tryd.prog 89 #[.string (s.extract i (i + 2))] w fun e w' => e = .returned (.bool ba) ∧ Qt w w') := by
          exact CM2.out hle
        clear CM2
        cases ba
        · go_wp2_with (go_at_call 89; (with_reducible refine (CM.out _).mono ?_); rintro e w' ⟨rfl, hq2⟩)
          go_roundw
          case rel => exact ⟨1, by first | exact rfl | exact True.intro, by omega, fun _ => (by first | exact rfl | exact True.intro), fun h => absurd h (by omega), hq.trans hq2⟩
          case measure => simp [intOf] <;> omega
        · have HRk : Hid (oneV (lxOne (c :: t)) i = .tuple #[.agg #[.int .i64 4, .string (s.extract i (i + 2)), .int .i64 0, .int .i64 i], .int .i64 ((i : Int) + 2), .int .i64 0]) := by
            show _ = _; rw [HR.out, if_pos rfl]
          go_wp2_with (go_at_call 89; (with_reducible refine (CM.out _).mono ?_); rintro e w3 ⟨rfl, hq2⟩; obtain ⟨q0, q1, q2, q3, f0, f1, f2, f3⟩ := lx_cells (hblk.qt hq2); obtain ⟨r0, r1, r2, r3, g0, g1, g2, g3⟩ := lx_cells (hblk1.qt hq2); have hbw' := hbw.trans (hq2.below w.heap.size))
          rw [HRk.out]
          exact bodyPost_ret (v := .tuple #[.agg #[.int .i64 4, .string (s.extract i (i + 2)), .int .i64 0, .int .i64 i], .int .i64 ((i : Int) + 2), .int .i64 0]) (by simp [results, Tryd.results61, go_sem, q0, q1, q2, q3]) rfl ⟨rfl, (((hbw'.setCell (by simp) _).setCell (by simp) _).setCell (by simp) _).setCell (by simp) _⟩
      · have hba0 : ba = false := by
          cases ba with
          | false => rfl
          | true => exact absurd (HLE.out rfl) hle
        have hle' : ¬ (i : Int) + 2 ≤ (s.size : Int) := by omega
        clear hle CM2
        go_wp2_with fail
        go_roundw
        case rel => exact ⟨1, by first | exact rfl | exact True.intro, by omega, fun _ => hba0, fun h => absurd h (by omega), hq⟩
        case measure => simp [intOf] <;> omega
    · have CM : Hid (∀ w, Calls Tryd.prog 89 #[.string (s.extract i (i + 1))] w fun e w' => e = .returned (.bool bm) ∧ Qt w w') := by
        exact CM1.out
      clear CM2 CM1
      cases bm
      · go_wp2_with (go_at_call 89; (with_reducible refine (CM.out _).mono ?_); rintro e w' ⟨rfl, hq2⟩)
        go_roundw
        case rel => exact ⟨0, by first | exact rfl | exact True.intro, by omega, fun _ => hba0, fun _ => (by first | exact rfl | exact True.intro), hq.trans hq2⟩
        case measure => simp [intOf] <;> omega
      · have HRk : Hid (oneV (lxOne (c :: t)) i = .tuple #[.agg #[.int .i64 4, .string (s.extract i (i + 1)), .int .i64 0, .int .i64 i], .int .i64 ((i : Int) + 1), .int .i64 0]) := by
          show _ = _; rw [HR.out, hba0, if_neg (by simp), if_pos rfl]
        go_wp2_with (go_at_call 89; (with_reducible refine (CM.out _).mono ?_); rintro e w3 ⟨rfl, hq2⟩; obtain ⟨q0, q1, q2, q3, f0, f1, f2, f3⟩ := lx_cells (hblk.qt hq2); obtain ⟨r0, r1, r2, r3, g0, g1, g2, g3⟩ := lx_cells (hblk1.qt hq2); have hbw' := hbw.trans (hq2.below w.heap.size))
        rw [HRk.out]
        exact bodyPost_ret (v := .tuple #[.agg #[.int .i64 4, .string (s.extract i (i + 1)), .int .i64 0, .int .i64 i], .int .i64 ((i : Int) + 1), .int .i64 0]) (by simp [results, Tryd.results61, go_sem, q0, q1, q2, q3]) rfl ⟨rfl, (((hbw'.setCell (by simp) _).setCell (by simp) _).setCell (by simp) _).setCell (by simp) _⟩
    · have HRk : Hid (oneV (lxOne (c :: t)) i = .tuple #[.agg #[.int .i64 0, .string ⟨#[]⟩, .int .i64 0, .int .i64 0], .int .i64 (i : Int), .int .i64 5]) := by
        show _ = _; rw [HR.out, hba0, hbm0, if_neg (by simp), if_neg (by simp)]
      obtain ⟨q0, q1, q2, q3, f0, f1, f2, f3⟩ := lx_cells hblk
      obtain ⟨r0, r1, r2, r3, g0, g1, g2, g3⟩ := lx_cells hblk1
      have hbw' := hbw
      clear CM2 CM1
      go_wp2_with fail
      rw [HRk.out]
      exact bodyPost_ret (v := .tuple #[.agg #[.int .i64 0, .string ⟨#[]⟩, .int .i64 0, .int .i64 0], .int .i64 (i : Int), .int .i64 5]) (by simp [results, Tryd.results61, go_sem, q0, q1, q2, q3]) rfl ⟨rfl, (((hbw'.setCell (by simp) _).setCell (by simp) _).setCell (by simp) _).setCell (by simp) _⟩
theorem refOne_any (s : ByteArray) (i : Nat) (c : UInt8) (t : List UInt8) (w : World) (hz : s.size ≤ 1000000000) (hd : s.data.toList.drop i = c :: t) :
    Calls Tryd.prog 61 #[.string s, .int .i64 (i : Int)] w (Ret (oneV (lxOne (c :: t)) i) w) := by
  by_cases h1 : lxLet c = true
  · exact refOne_let s i c t w hz hd h1
  have h1' : lxLet c = false := by simpa using h1
  by_cases h2 : isDig c = true
  · exact refOne_dig s i c t w hz hd h1' h2
  have h2' : isDig c = false := by simpa using h2
  by_cases h3 : (c == 34) = true
  · exact refOne_str s i c t w hz hd h1' h2' h3
  · exact refOne_mark s i c t w hz hd h1' h2' (by simpa using h3)
end Go.Proofs.YthfnncnmggkfaaaDoor

namespace Go.Proofs.YthfnncnmggkfaaaDoor
open Go Go.RowKit

set_option maxRecDepth 100000 in
set_option maxHeartbeats 4000000 in
theorem refScan_any (s : ByteArray) (w : World) (hz : s.size ≤ 140737488350000) : Calls Tryd.prog 39 #[.string s] w (ScanPost s.data.toList w) := by
  by_cases hbig : 16384 < s.size
  · have HS : Hid (scanS s.data.toList = ([], 4, 16384)) := by show _ = _; unfold scanS; rw [if_pos (by rw [size_list]; exact hbig)]
    go_enter Tryd.func39, Tryd.ntmps39
    go_wp2_with fail
    go_ret3
    unfold ScanPost
    rw [HS.out]
    exact ⟨_, rfl, Rep.slice_nil _ _ _, Below.refl _ _⟩
  have HS : Hid (scanS s.data.toList = scanF 0 s.data.toList) := by show _ = _; unfold scanS; rw [if_neg (by rw [size_list]; exact hbig)]
  obtain ⟨i0, hi, hz0, hz1, hz2⟩ := info_parts lx_info
  go_enter Tryd.func39, Tryd.ntmps39
  go_wp2_with fail
  refine (refSkip_any s 0 _ (by omega) (by omega)).mono ?_
  rintro e w1 ⟨j0, rfl, hj0, hjd0, rfl⟩
  have H0 := Lib.hid (ScAt.start hj0 hjd0)
  clear hjd0
  go_wp2_with fail
  go_loopw [5, 6] (fun l i wr => ∃ (k : Nat) (acc : List Lx), k ≤ s.size ∧ i = .int .i64 k ∧ acc.length ≤ k ∧ OwnLx wr w.heap.size l acc ∧ Below w.heap.size w wr ∧ Hid (ScAt s acc k)) (fun _ i _ => s.size - (intOf i).toNat)
  case atStart => exact ⟨j0, [], hj0, rfl, by simp, World.ownsRow_nil _ _ _ _, Below.refl _ _, H0⟩
  case round =>
    obtain ⟨k, acc, hk, rfl, hal, hown, hbw, hA⟩ := hrel
    have hsz := hbw.size
    by_cases hlt : k < s.size
    · obtain ⟨c, t, hd, -, -⟩ := drop_at (D := s.data.toList) (k := k) (by rw [size_list]; exact hlt)
      have CN := Lib.hid (fun w => refOne_any s k c t w (by omega) hd)
      obtain ⟨k1, k2, k3, k4, k5, k6, hO, hC, hk5, hk6⟩ := oneX_cells (lxOne (c :: t)) k
      rw [hO] at CN
      have HC := Lib.hid hC
      have HD := Lib.hid hd
      have hlen := one_len c t
      have hct : t.length + 1 = s.size - k := by
        have := congrArg List.length hd
        rw [List.length_drop, size_list, List.length_cons] at this; exact this.symm
      by_cases ho : (lxOne (c :: t)).2.2.2.2 = 0
      · obtain ⟨hl1, hl2⟩ := hlen
        have hp := hl2 ho
        have hk60 : k6 = 0 := by rw [hk6, ho]
        obtain ⟨n, hn⟩ : ∃ n, n = k + (lxOne (c :: t)).2.2.2.1 := ⟨_, rfl⟩
        have hk5n : k5 = (n : Int) := by rw [hk5, hn]; omega
        have HSTEP : Hid (∀ j, j ≤ s.size → s.data.toList.drop j = lxSkip false (s.data.toList.drop n) → ScAt s (acc ++ [oneX (lxOne (c :: t)) k]) j ∧ n ≤ j) := fun j hj hjd => by
          have hnb : n ≤ s.size := by omega
          refine ⟨?_, skip_ge (by rw [size_list]; exact hj) (by rw [size_list]; exact hnb) hjd⟩
          rw [hn] at hjd
          exact hA.out.step HD.out ho hj hjd
        have hnb : n ≤ s.size := by omega
        have hnk : k < n := by omega
        clear hd hO hC hk5 hl1 hl2 hp ho hk6 hct hn hA
        subst hk60
        subst hk5n
        generalize oneX (lxOne (c :: t)) k = x at *
        have CS := Lib.hid (fun w => refSkip_any s n w (by omega) hnb)
        go_wp2_with fail
        refine (CN.out _).mono ?_
        rintro e w1 ⟨rfl, hb1⟩
        have hown1 := own_below hown hb1
        have hs1 := hb1.size
        go_wp2_with (at_builtin; refine wpList_append_own _ rfl _ _ 83 rfl w.heap.size 90 i0 (.agg #[.int .i64 0, .string ⟨#[]⟩, .int .i64 0, .int .i64 0]) 4 40 Tryd.underlying83 hi hz0 hz1 hz2 rfl (by decide) _ _ _ rfl (World.ownsRow.alloc (World.ownsRow.alloc hown1 _) _) ⟨w1.heap.size + 1, 0, none⟩ 1 1 [.int .i64 k1, .string k2, .int .i64 k3, .int .i64 k4] rfl rfl (by simpa using new4_cells (w1.alloc (.cells #[.int .i64 k1, .string k2, .int .i64 k3, .int .i64 k4] 90)) (.int .i64 k1) (.string k2) (.int .i64 k3) (.int .i64 k4) 90) (by rw [← HC.out]; exact lx_one x) (by unfold maxLen; omega) (by omega) (by simp; omega) ?_)
        intro v2 w2 hown2 hg2 _
        rw [← HC.out] at hown2
        have hown3 := ownLx_snoc hown2
        have hbw1 := hbw.trans (hb1.mono hsz)
        have hbw2 := ((hbw1.alloc (by omega) (.cells #[.int .i64 k1, .string k2, .int .i64 k3, .int .i64 k4] 90)).alloc (by simp; omega) (.cells #[.int .i64 k1, .string k2, .int .i64 k3, .int .i64 k4] 90)).grown hg2 (by simp; omega) (fun j hj => (World.ownsRow.lt hown1 j hj).1)
        clear hown2 hg2
        go_wp2_with fail
        refine (CS.out _).mono ?_
        rintro e w3 ⟨j, rfl, hj, hjd, rfl⟩
        obtain ⟨hS, hnj⟩ := HSTEP.out j hj hjd
        have HS3 := Lib.hid hS
        clear hjd hS
        go_wp2_with fail
        go_roundw
        case rel => exact ⟨j, acc ++ [x], hj, rfl, by simp; omega, hown3, hbw2, HS3⟩
        case measure => simp [intOf] <;> omega
      · have HB := Lib.hid (hA.out.bad HD.out ho)
        rw [← hk5, ← hk6] at HB
        have hk60 : (k6 != 0) = true := ine_t (by rw [hk6]; exact ho)
        clear hd hO hC hk5 hk6 hlen ho hct hA
        go_wp2_with fail
        refine (CN.out _).mono ?_
        rintro e w1 ⟨rfl, hb1⟩
        go_wp2_with fail
        go_ret3
        unfold ScanPost
        rw [HS.out, HB.out]
        exact ⟨_, rfl, Rep.slice_nil _ _ _, (hbw.trans (hb1.mono hsz)).alloc (by have := hb1.size; omega) _⟩
    · obtain rfl : k = s.size := by omega
      have HB := Lib.hid (hA.out.done rfl)
      clear hA
      go_wp2_with (at_builtin; refine wpList_append_own _ rfl _ _ 83 rfl w.heap.size 90 i0 (.agg #[.int .i64 0, .string ⟨#[]⟩, .int .i64 0, .int .i64 0]) 4 40 Tryd.underlying83 hi hz0 hz1 hz2 rfl (by decide) _ _ _ rfl (World.ownsRow.alloc hown _) ⟨wr.heap.size, 0, none⟩ 1 1 [.int .i64 0, .string ⟨#[]⟩, .int .i64 0, .int .i64 (s.size : Int)] rfl rfl (new4_cells wr (.int .i64 0) (.string ⟨#[]⟩) (.int .i64 0) (.int .i64 (s.size : Int)) 90) (lx_one (0, [], 0, (s.size : Int))) (by unfold maxLen; omega) (by omega) (by simp; omega) ?_)
      intro v2 w2 hown2 hg2 _
      have hown3 := ownLx_snoc (x := (0, [], 0, (s.size : Int))) hown2
      have hbw2 := (hbw.alloc hsz _).grown hg2 (by simp; omega) (fun j hj => (World.ownsRow.lt hown j hj).1)
      clear hown2 hg2
      go_wp2_with fail
      go_ret3
      unfold ScanPost
      rw [HS.out, HB.out]
      exact ⟨_, rfl, ownLx_rep hown3, hbw2⟩
end Go.Proofs.YthfnncnmggkfaaaDoor

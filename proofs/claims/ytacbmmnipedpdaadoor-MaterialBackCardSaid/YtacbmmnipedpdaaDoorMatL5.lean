/- Chapter 15: the law MaterialBack, by walking its text. -/
import Derived.Test.YtacbmmnipedpdaaDoorMatRd
namespace Go.Proofs.YtacbmmnipedpdaaDoor
open Go Go.RowKit
set_option linter.unusedSimpArgs false

def preB : List UInt8 := [35, 32, 103, 114, 97, 100, 101, 10]
theorem pre_skip : ∀ r, lxSkip false (preB ++ r) = lxSkip false r := fun r => by
  show lxSkip false (35 :: 32 :: 103 :: 114 :: 97 :: 100 :: 101 :: 10 :: r) = _
  simp [lxSkip, lxBl]
theorem wide_back {n : Nat} (hn : n ≤ 4) {m : Mat} (h : checkM m = 0) : parseM (preB ++ wideF n (textM m)) = (m, 0, 0) := mat_back hn h pre_skip (by decide)
theorem format_bad {m : Mat} (h : checkM m ≠ 0) : formatM m = ([], checkM m) := by unfold formatM; rw [if_pos h]
theorem wide_snoc (n : Nat) {D : List UInt8} {i : Nat} {c : UInt8} (h : D[i]? = some c) : wideF n (D.take (i + 1)) = wideF n (D.take i) ++ wideC n c := by
  rw [take_one h, wide_app]; congr 1; unfold wideF; simp
theorem sz_list15 (S : ByteArray) : S.size = S.data.toList.length := by simp
theorem cat_list15 (S T : ByteArray) : (S ++ T).data.toList = S.data.toList ++ T.data.toList := by simp [ByteArray.data_append]
theorem bl_ext (n : Nat) : (({ data := #[9, 32, 10, 13] } : ByteArray).extract 0 n).data.toList = blN n := by rw [extract_list]; simp [blN]
theorem bl_len {n : Nat} (hn : n ≤ 4) : (blN n).length ≤ 4 := by unfold blN; rw [List.length_take]; omega
theorem cat_size {n : Nat} (hn : n ≤ 4) {S : ByteArray} {ch : UInt8} {i : Nat} (h : S.size ≤ 8 + 5 * i) : (S ++ ({ data := #[ch] } : ByteArray) ++ ({ data := #[9, 32, 10, 13] } : ByteArray).extract 0 n).size ≤ 8 + 5 * (i + 1) := by
  have := bl_len hn
  rw [sz_list15] at h
  rw [sz_list15, cat_list15, cat_list15, bl_ext, List.length_append, List.length_append]
  simp only [List.length_cons, List.length_nil]
  omega
theorem cat_size1 {S : ByteArray} {ch : UInt8} {i : Nat} (h : S.size ≤ 8 + 5 * i) : (S ++ ({ data := #[ch] } : ByteArray)).size ≤ 8 + 5 * (i + 1) := by
  rw [sz_list15] at h
  rw [sz_list15, cat_list15, List.length_append]
  simp only [List.length_cons, List.length_nil]
  omega
theorem cat_text {n : Nat} {S : ByteArray} {ch : UInt8} {D P E : List UInt8} (h : S.data.toList = P ++ D) (h2 : E = D ++ wideC n ch) (h3 : wideC n ch = ch :: blN n) : Hid ((S ++ ({ data := #[ch] } : ByteArray) ++ ({ data := #[9, 32, 10, 13] } : ByteArray).extract 0 n).data.toList = P ++ E) := by
  show _ = _
  rw [cat_list15, cat_list15, bl_ext, h, h2, h3]
  simp
theorem cat_text1 {n : Nat} {S : ByteArray} {ch : UInt8} {D P E : List UInt8} (h : S.data.toList = P ++ D) (h2 : E = D ++ wideC n ch) (h3 : wideC n ch = [ch]) : Hid ((S ++ ({ data := #[ch] } : ByteArray)).data.toList = P ++ E) := by
  show _ = _
  rw [cat_list15, h, h2, h3]
  simp
theorem u8_inv15 {w : World} {D : Nat → Prop} {y k : Int} (h : Rep.u8i.R w D y (Value.int .u8 k).cells.toList) : y = k ∧ 0 ≤ k ∧ k ≤ 255 := by
  obtain ⟨e, h1, h2⟩ := h
  have e : [Value.int .u8 k] = [Value.int .u8 y] := e
  injection e with e _
  injection e with _ e
  subst e
  exact ⟨rfl, h1, h2⟩
set_option maxRecDepth 100000 in
set_option maxHeartbeats 8000000 in
theorem back15_law (a : Array Value) (k : Int) (m : Mat) (y : Int) (w : World) (hT : TabP w) (h : matR.R w (Lt w) m (Value.agg a).cells.toList) (_ : True) (hk : Rep.u8i.R w (Lt w) y (Value.int .u8 k).cells.toList) (_ : True) :
    Calls Tryd.prog 7 #[.agg a, .int .u8 k] w (Ret (.bool true) w) := by
  obtain ⟨A, c, B, d, rfl, hg, hs, hn1, hn2⟩ := mat_inv (cs := a) h
  obtain ⟨-, hk0, hk1⟩ := u8_inv15 hk
  have HT := Lib.hid hT
  have HS := Lib.hid (ma_start (Below.refl w.heap.size w) hg hs)
  clear hT h hg hs hk
  obtain ⟨W0, hW0⟩ : ∃ W0, W0 = w.alloc (.cells #[.slice A m.1.length c, .slice B m.2.length d] 25) := ⟨_, rfl⟩
  rw [← hW0] at HS
  have HW0 := Lib.hid hW0
  have c0 := HS.out.bm.c20
  have c1 := HS.out.bm.c21
  obtain ⟨few, hfew⟩ : ∃ b, b = fewM m := ⟨_, rfl⟩
  have HF := Lib.hid hfew
  have CF := Lib.hid (few15_any _ _ _ _ _ _ m W0 HS.out.hg HS.out.hs)
  rw [← hfew] at CF
  have HT0 : Hid (TabP W0) := by rw [hW0]; exact HT.out.below ((Below.refl w.heap.size w).alloc (Nat.le_refl _) _)
  clear hW0 hfew HT
  cases few
  · go_enter Tryd.func7, Tryd.ntmps7
    go_upto_region 1 with fail
    rw [← HW0.out]
    go_wp2_with fail
    refine CF.out.mono ?_
    rintro e w1 ⟨rfl, hb1⟩
    have HS := Lib.hid (HS.out.below hb1)
    have HT := Lib.hid (HT0.out.below hb1)
    go_wp2_with fail
    refine (awake_any _ HT.out).mono ?_
    rintro e w2 ⟨rfl, hb2⟩
    have HS := Lib.hid (HS.out.below hb2)
    go_wp2
    go_ret
    exact ⟨rfl, HS.out.hb⟩
  by_cases hck : checkM m = 0
  · have hfm := format_ok hck
    go_enter Tryd.func7, Tryd.ntmps7
    go_upto_region 1 with fail
    rw [← HW0.out]
    go_wp2_with fail
    refine CF.out.mono ?_
    rintro e w1 ⟨rfl, hb1⟩
    have HS := Lib.hid (HS.out.below hb1)
    have HT := Lib.hid (HT0.out.below hb1)
    have c0 := HS.out.bm.c20
    have c1 := HS.out.bm.c21
    go_wp2_with fail
    refine (matFormat_any _ _ _ _ _ _ m _ HT.out HS.out.hg HS.out.hs).mono ?_
    rintro e w2 ⟨rfl, hb2⟩
    rw [hfm]
    have HS := Lib.hid (HS.out.below hb2)
    have HT := Lib.hid (HT.out.below hb2)
    have c0 := HS.out.bm.c20
    have c1 := HS.out.bm.c21
    clear hb1 hb2 CF HT0
    have C2 := Lib.hid (parse_any15 (textM m) (m, 0, 0) (by have := text_short hck; omega) (reads_back hck) w2)
    have hts := text_short hck
    dsimp only
    obtain ⟨T, hTd⟩ : ∃ T, T = bA (textM m) := ⟨_, rfl⟩
    rw [← hTd] at C2 ⊢
    have HTL : Hid (T.data.toList = textM m) := by show _ = _; rw [hTd]
    have hTs : T.size ≤ 7600 := by rw [hTd, bA_size]; exact hts
    clear hTd hts hfm
    go_wp2_with fail
    refine C2.out.mono ?_
    rintro e w3 ⟨vg, vs, rfl, hm, hb3⟩
    obtain ⟨A2, c2, B2, d2, rfl, rfl, hg, hs⟩ := mat_out hm
    have HN : Hid (MaSt w3 w3.heap.size m A2 B2 c2 d2 (w3.alloc (.cells #[.slice A2 m.1.length c2, .slice B2 m.2.length d2] 25))) := ma_start (Below.refl w3.heap.size w3) hg hs
    have hby := (Below.refl w3.heap.size w3).alloc (Nat.le_refl _) (.cells #[.slice A2 m.1.length c2, .slice B2 m.2.length d2] 25)
    have HS := Lib.hid ((HS.out.below hb3).below hby)
    have HT := Lib.hid ((HT.out.below hb3).below hby)
    clear hg hs hm hb3 hby C2 c0 c1
    dsimp only
    obtain ⟨W3, hW3⟩ : ∃ W3, W3 = w3.alloc (.cells #[.slice A2 m.1.length c2, .slice B2 m.2.length d2] 25) := ⟨_, rfl⟩
    rw [← hW3] at HS HT HN
    have HW3 := Lib.hid hW3
    clear hW3
    obtain ⟨n, hn, hkn⟩ : ∃ n : Nat, n ≤ 4 ∧ k.tmod 5 = (n : Int) := by
      have h1 : k.tmod 5 = k % 5 := Int.tmod_eq_emod_of_nonneg hk0
      exact ⟨(k % 5).toNat, by omega, by rw [h1]; omega⟩
    go_upto_region 7 with fail
    rw [← HW3.out]
    go_wp2_with fail
    go_loopw [10, 11] (fun sv iv wr => ∃ (i : Nat) (S : ByteArray), i ≤ T.size ∧ iv = .int .i64 i ∧ sv = .string S ∧ S.size ≤ 8 + 5 * i ∧ Hid (S.data.toList = preB ++ wideF n ((textM m).take i)) ∧ wr = W3) (fun _ iv _ => T.size - (intOf iv).toNat)
    case atStart => exact ⟨0, ⟨#[35, 32, 103, 114, 97, 100, 101, 10]⟩, Nat.zero_le _, rfl, rfl, by decide, rfl, rfl⟩
    case round =>
      obtain ⟨i, S, hi, rfl, rfl, hSs, HSD, rfl⟩ := hrel
      by_cases hlt : i < T.size
      · have hlt' : (i : Int) < (T.size : Int) := by omega
        obtain ⟨ch, t, -, hc, -⟩ := drop_at (D := T.data.toList) (k := i) (by rw [size_list]; exact hlt)
        have hsk := byte_at hlt hc
        rw [HTL.out] at hc
        have HWS := Lib.hid (wide_snoc n hc)
        have hex : T.extract i (i + 1) = ⟨#[ch]⟩ := by
          rw [extract_eq, HTL.out, List.drop_eq_getElem_cons (lt_of_get hc)]
          rw [List.getElem?_eq_getElem (lt_of_get hc)] at hc
          injection hc with hc
          rw [hc]; simp
        clear hc
        by_cases hb : (ch == 32) = true
        · have b1 : ((ch.toNat : Int) == 32) = true := u8yes (k := 32) (by decide) hb
          have HWC : Hid (wideC n ch = ch :: blN n) := by show _ = _; unfold wideC; rw [hb]; rfl
          clear hb
          go_wp2_with fail
          go_roundw
          case rel => exact ⟨i + 1, _, by omega, by go_num, rfl, cat_size hn hSs, cat_text HSD.out HWS.out HWC.out, trivial⟩
          case measure => simp [intOf]; omega
        · have hb : (ch == 32) = false := by simpa using hb
          have b1 : ((ch.toNat : Int) == 32) = false := u8ne (k := 32) (by decide) hb
          by_cases hb2 : (ch == 10) = true
          · have b2 : ((ch.toNat : Int) == 10) = true := u8yes (k := 10) (by decide) hb2
            have HWC : Hid (wideC n ch = ch :: blN n) := by show _ = _; unfold wideC; rw [hb, hb2]; rfl
            clear hb hb2
            go_wp2_with fail
            go_roundw
            case rel => exact ⟨i + 1, _, by omega, by go_num, rfl, cat_size hn hSs, cat_text HSD.out HWS.out HWC.out, trivial⟩
            case measure => simp [intOf]; omega
          · have hb2 : (ch == 10) = false := by simpa using hb2
            have b2 : ((ch.toNat : Int) == 10) = false := u8ne (k := 10) (by decide) hb2
            have HWC : Hid (wideC n ch = [ch]) := by show _ = _; unfold wideC; rw [hb, hb2]; rfl
            clear hb hb2
            go_wp2_with fail
            go_roundw
            case rel => exact ⟨i + 1, _, by omega, by go_num, rfl, cat_size1 hSs, cat_text1 HSD.out HWS.out HWC.out, trivial⟩
            case measure => simp [intOf]; omega
      · have hlt' : ¬ (i : Int) < (T.size : Int) := by omega
        have HSE : Hid (S = bA (preB ++ wideF n (textM m))) := by
          have e := HSD.out
          rw [List.take_of_length_le (by rw [← HTL.out, size_list]; omega)] at e
          show S = _
          rw [← e, bA_of]
        have hlen : (preB ++ wideF n (textM m)).length ≤ 20000 := by
          have := text_len15 hn hck
          rw [List.length_append]
          have : preB.length = 8 := rfl
          omega
        have C3 := Lib.hid (parse_any15 (preB ++ wideF n (textM m)) (m, 0, 0) hlen (wide_back hn hck) wr)
        rw [← HSE.out] at C3
        clear HSD HSE hSs hlen HW3 hlt hi
        go_wp2_with fail
        refine C3.out.mono ?_
        rintro e w4 ⟨vg, vs, rfl, hm, hb4⟩
        obtain ⟨A3, c3, B3, d3, rfl, rfl, hg, hs⟩ := mat_out hm
        have HP : Hid (MaSt w4 w4.heap.size m A3 B3 c3 d3 (w4.alloc (.cells #[.slice A3 m.1.length c3, .slice B3 m.2.length d3] 25))) := ma_start (Below.refl w4.heap.size w4) hg hs
        have hby := (Below.refl w4.heap.size w4).alloc (Nat.le_refl _) (.cells #[.slice A3 m.1.length c3, .slice B3 m.2.length d3] 25)
        have HS := Lib.hid ((HS.out.below hb4).below hby)
        have HN := Lib.hid ((HN.out.below hb4).below hby)
        have HT := Lib.hid ((HT.out.below hb4).below hby)
        clear hg hs hm hb4 hby C3
        dsimp only
        obtain ⟨W4, hW4⟩ : ∃ W4, W4 = w4.alloc (.cells #[.slice A3 m.1.length c3, .slice B3 m.2.length d3] 25) := ⟨_, rfl⟩
        rw [← hW4] at HS HT HN HP
        have HW4 := Lib.hid hW4
        clear hW4
        have c0 := HS.out.bm.c20
        have c1 := HS.out.bm.c21
        have n0 := HN.out.bm.c20
        have n1 := HN.out.bm.c21
        have p0 := HP.out.bm.c20
        have p1 := HP.out.bm.c21
        go_upto_region 15 with fail
        rw [← HW4.out]
        go_wp2_with fail
        refine (same15_eq _ _ _ _ _ _ _ _ _ _ _ _ m _ HN.out.hg HN.out.hs HS.out.hg HS.out.hs).mono ?_
        rintro e w5 ⟨rfl, hb5⟩
        have HS := Lib.hid (HS.out.below hb5)
        have HT := Lib.hid (HT.out.below hb5)
        have HP := Lib.hid (HP.out.below hb5)
        have c0 := HS.out.bm.c20
        have c1 := HS.out.bm.c21
        have p0 := HP.out.bm.c20
        have p1 := HP.out.bm.c21
        clear hb5 HN n0 n1
        go_wp2_with fail
        refine (same15_eq _ _ _ _ _ _ _ _ _ _ _ _ m _ HP.out.hg HP.out.hs HS.out.hg HS.out.hs).mono ?_
        rintro e w6 ⟨rfl, hb6⟩
        have HS := Lib.hid (HS.out.below hb6)
        have HT := Lib.hid (HT.out.below hb6)
        go_wp2_with fail
        refine (awake_any _ HT.out).mono ?_
        rintro e w7 ⟨rfl, hb7⟩
        have HS := Lib.hid (HS.out.below hb7)
        go_wp2
        go_ret
        exact ⟨rfl, HS.out.hb⟩
  · have hfm := format_bad hck
    obtain ⟨ce, hce⟩ : ∃ ce, checkM m = ce := ⟨_, rfl⟩
    rw [hce] at hck hfm
    have q0 := ine_t hck
    have q1 := beq_self_int ce
    clear hck
    go_enter Tryd.func7, Tryd.ntmps7
    go_upto_region 1 with fail
    rw [← HW0.out]
    go_wp2_with fail
    refine CF.out.mono ?_
    rintro e w1 ⟨rfl, hb1⟩
    have HS := Lib.hid (HS.out.below hb1)
    have HT := Lib.hid (HT0.out.below hb1)
    have c0 := HS.out.bm.c20
    have c1 := HS.out.bm.c21
    go_wp2_with fail
    refine (matFormat_any _ _ _ _ _ _ m _ HT.out HS.out.hg HS.out.hs).mono ?_
    rintro e w2 ⟨rfl, hb2⟩
    rw [hfm]
    have HS := Lib.hid (HS.out.below hb2)
    have HT := Lib.hid (HT.out.below hb2)
    have c0 := HS.out.bm.c20
    have c1 := HS.out.bm.c21
    clear hb1 hb2 CF HT0
    dsimp only
    go_wp2_with fail
    refine (matCheck_any _ _ _ _ _ _ m _ HS.out.hg HS.out.hs).mono ?_
    rintro e w3 ⟨rfl, hb3⟩
    rw [hce]
    have HS := Lib.hid (HS.out.below hb3)
    have HT := Lib.hid (HT.out.below hb3)
    go_wp2_with fail
    refine (awake_any _ HT.out).mono ?_
    rintro e w4 ⟨rfl, hb4⟩
    have HS := Lib.hid (HS.out.below hb4)
    go_wp2
    go_ret
    exact ⟨rfl, HS.out.hb⟩
end Go.Proofs.YtacbmmnipedpdaaDoor

/- Chapter 07: the laws LexerMarks, LexerScans, LexerQuotes, LexerPrints, by walking their text. -/
import Derived.Test.YtjcecnlnmodkgaaDoorLexAlive
import Derived.Test.YtjcecnlnmodkgaaDoorOpenZ
namespace Go.Proofs.YtjcecnlnmodkgaaDoor
open Go Go.RowKit Go.ChangeShapes

theorem opens_i : OpensZ Tryd.prog 3 Rep.int (fun _ => True) := opensZ_of (opens_int Tryd.underlying3)
def StrZ (s : ByteArray) : Prop := s.size ≤ 140737488351232
theorem opens_s : OpensZ Tryd.prog 9 Rep.str StrZ := opensZ_str Tryd.underlying9
theorem i64_inv {w : World} {D : Nat → Prop} {x a : Int} (h : Rep.int.R w D x (Value.int .i64 a).cells.toList) : a = x ∧ -9223372036854775808 ≤ x ∧ x ≤ 9223372036854775807 := by
  obtain ⟨e, h⟩ := h
  have e' : [Value.int .i64 a] = [Value.int .i64 x] := e
  exact ⟨by simpa using e', h⟩
theorem str_inv {w : World} {D : Nat → Prop} {x a : ByteArray} (h : Rep.str.R w D x (Value.string a).cells.toList) : a = x := by
  obtain ⟨e, _⟩ := h
  have e' : [Value.string a] = [Value.string x] := e
  simpa using e'
set_option maxRecDepth 100000 in
set_option maxHeartbeats 2000000 in
theorem marks_law (s x : ByteArray) (w : World) (hT : TabP w) (hs : Rep.str.R w (Lt w) x (Value.string s).cells.toList) (hz : StrZ x) :
    Calls Tryd.prog 7 #[.string s] w (Ret (.bool true) w) := by
  obtain rfl := str_inv hs
  have hz' : s.size ≤ 140737488351232 := hz
  clear hs hz
  have HT := Lib.hid hT
  have C1 := Lib.hid (fun w => isMark_any s w (by omega))
  have C2 := Lib.hid (fun w => refIsMark_any s w (by omega))
  clear hT
  generalize isMkF s.data.toList = B at *
  have q1 : (B == B) = true := by simp
  go_enter Tryd.func7, Tryd.ntmps7
  go_wp2_with fail
  refine (C1.out _).mono ?_
  rintro e w1 ⟨rfl, rfl⟩
  go_wp2_with fail
  refine (C2.out _).mono ?_
  rintro e w1 ⟨rfl, u1⟩
  have b6 := u1.below w.heap.size
  have HT6 := Lib.hid (HT.out.qt u1)
  clear u1
  go_wp2_with fail
  refine (alive_any _ HT6.out).mono ?_
  rintro e w7 ⟨rfl, hb⟩
  go_wp2_with fail
  go_ret
  exact ⟨rfl, bstep b6 b6.size hb⟩
set_option maxRecDepth 100000 in
set_option maxHeartbeats 2000000 in
theorem scans_law (s x : ByteArray) (w : World) (hT : TabP w) (hs : Rep.str.R w (Lt w) x (Value.string s).cells.toList) (hz : StrZ x) :
    Calls Tryd.prog 3 #[.string s] w (Ret (.bool true) w) := by
  obtain rfl := str_inv hs
  have hz' : s.size ≤ 140737488351232 := hz
  clear hs hz
  have HT := Lib.hid hT
  clear hT
  by_cases hbig : 3000 < s.size
  · go_enter Tryd.func3, Tryd.ntmps3
    go_wp2_with fail
    refine (alive_any _ HT.out).mono ?_
    rintro e w7 ⟨rfl, hb⟩
    go_wp2_with fail
    go_ret
    exact ⟨rfl, hb⟩
  have C1 := Lib.hid (fun w => scan_any s w (by omega))
  have C2 := Lib.hid (fun w => refScan_any s w (by omega))
  unfold ScanPost at C1 C2
  generalize scanS s.data.toList = r at *
  obtain ⟨l, e1, a1⟩ := r
  have q1 := beq_self_int e1
  have q2 := beq_self_int a1
  go_enter Tryd.func3, Tryd.ntmps3
  go_wp2_with fail
  refine (C1.out _).mono ?_
  rintro e w1 ⟨v1, rfl, r1, b1⟩
  go_wp2_with fail
  refine (C2.out _).mono ?_
  rintro e w2 ⟨v2, rfl, r2, b2a⟩
  have r1' := Rep.below r1 b2a
  have b2 := bstep b1 b1.size b2a
  have C3 := Lib.hid (same_eq v1 v2 l w2 r1' r2)
  clear b2a b1 r1
  go_wp2_with fail
  refine C3.out.mono ?_
  rintro e w3 ⟨rfl, u3⟩
  have b3 := bstep b2 b2.size (u3.below w2.heap.size)
  have HT6 := Lib.hid (HT.out.below b3)
  clear u3 b2
  go_wp2_with fail
  refine (alive_any _ HT6.out).mono ?_
  rintro e w7 ⟨rfl, hb⟩
  go_wp2_with fail
  go_ret
  exact ⟨rfl, bstep b3 b3.size hb⟩
/-- a quoted string's lexemes. -/
theorem quote_scan {l : List UInt8} (h : l.all qtC = true) (hl : l.length ≤ 1000) : scanS (quoteF l).1 = ([(3, l, 0, 0), (0, [], 0, ((quoteF l).1.length : Int))], 0, 0) := by
  have hq : quoteF l = (34 :: (l.flatMap esc ++ [34]), 0) := by unfold quoteF; rw [if_pos h]
  rw [hq]
  have hel := esc_flat_len l
  have hok := qs_of (qs_esc l [] h)
  have hlen : (34 :: (l.flatMap esc ++ [34])).length = (l.flatMap esc).length + 2 := by simp
  unfold scanS
  rw [if_neg (by simp only [hlen]; omega)]
  have hs : lxSkip false (34 :: (l.flatMap esc ++ [34])) = 34 :: (l.flatMap esc ++ [34]) := skip_same (by decide) (by decide)
  have ho : lxOne (34 :: (l.flatMap esc ++ [34])) = (3, l, 0, (l.flatMap esc).length + 2, 0) := by
    rw [lxOne, if_neg (by decide), if_neg (by decide), if_pos (by decide), hok]; rfl
  have hx : Lexes 0 (34 :: (l.flatMap esc ++ [34])) [(3, l, 0, 0), (0, [], 0, ((34 :: (l.flatMap esc ++ [34])).length : Int))] := by
    have hd : Lexes (0 + ((34 :: (l.flatMap esc ++ [34])).length : Int) - ((34 :: (l.flatMap esc ++ [34])).length : Int) + ((lxOne (34 :: (l.flatMap esc ++ [34]))).2.2.2.1 : Int)) ((34 :: (l.flatMap esc ++ [34])).drop (lxOne (34 :: (l.flatMap esc ++ [34]))).2.2.2.1) [(0, [], 0, ((34 :: (l.flatMap esc ++ [34])).length : Int))] := by
      rw [ho]
      simp only
      rw [List.drop_of_length_le (by rw [hlen]; exact Nat.le_refl _)]
      have := Lexes.done (i := 0 + ((34 :: (l.flatMap esc ++ [34])).length : Int) - ((34 :: (l.flatMap esc ++ [34])).length : Int) + (((l.flatMap esc).length + 2 : Nat) : Int)) (l := []) (by simp [lxSkip])
      rw [hlen] at this ⊢
      rw [show (0 : Int) + (((l.flatMap esc).length + 2 : Nat) : Int) - (((l.flatMap esc).length + 2 : Nat) : Int) + (((l.flatMap esc).length + 2 : Nat) : Int) + (([] : List UInt8).length : Int) = (((l.flatMap esc).length + 2 : Nat) : Int) by simp only [List.length_nil]; omega] at this
      exact this
    have := Lexes.step (i := 0) hs (by rw [ho]) hd
    rw [ho, show (0 : Int) + ((34 :: (l.flatMap esc ++ [34])).length : Int) - ((34 :: (l.flatMap esc ++ [34])).length : Int) = 0 by omega] at this
    exact this
  exact lexes_scan hx
set_option maxRecDepth 100000 in
set_option maxHeartbeats 4000000 in
theorem quotes_law (s x : ByteArray) (w : World) (hT : TabP w) (hs : Rep.str.R w (Lt w) x (Value.string s).cells.toList) (hz : StrZ x) :
    Calls Tryd.prog 5 #[.string s] w (Ret (.bool true) w) := by
  obtain rfl := str_inv hs
  have hz' : s.size ≤ 140737488351232 := hz
  clear hs hz
  have HT := Lib.hid hT
  clear hT
  by_cases hbig : 1000 < s.size
  · go_enter Tryd.func5, Tryd.ntmps5
    go_wp2_with fail
    refine (alive_any _ HT.out).mono ?_
    rintro e w7 ⟨rfl, hb⟩
    go_wp2_with fail
    go_ret
    exact ⟨rfl, hb⟩
  have C1 := Lib.hid (fun w => quote_any s w (by omega))
  have C2 := Lib.hid (fun w => refQuote_any s w (by omega))
  unfold QuoteRet at C1 C2
  by_cases hq : s.data.toList.all qtC = true
  · have hq2 : (quoteF s.data.toList).2 = 0 := by unfold quoteF; rw [if_pos hq]
    obtain ⟨T, hTq⟩ : ∃ T : ByteArray, T = ⟨(quoteF s.data.toList).1.toArray⟩ := ⟨_, rfl⟩
    have hTl : T.data.toList = (quoteF s.data.toList).1 := by rw [hTq]
    have hTs : T.size ≤ 2002 := by
      rw [← size_list, hTl]
      unfold quoteF
      rw [if_pos hq]
      have := esc_flat_len s.data.toList
      rw [size_list] at this
      simp only [List.length_cons, List.length_append, List.length_nil]; omega
    have C3 := Lib.hid (fun w => scan_any T w (by omega))
    unfold ScanPost at C3
    rw [hTl, quote_scan hq (by rw [size_list]; omega), ← hTl, size_list] at C3
    rw [hq2, ← hTq] at C1 C2
    have HSX : Hid (s = ⟨s.data.toList.toArray⟩) := by show _ = _; rfl
    have q1 : (T.toList == T.toList) = true := by simp
    have q2 : (T.toList != T.toList) = false := by simp
    generalize s.data.toList = L at *
    clear hq hq2 hTq hTl
    go_enter Tryd.func5, Tryd.ntmps5
    go_wp2_with fail
    refine (C1.out _).mono ?_
    rintro e w1 ⟨rfl, b1⟩
    go_wp2_with fail
    refine (C2.out _).mono ?_
    rintro e w2 ⟨rfl, b2a⟩
    have b2 := bstep b1 b1.size b2a
    clear b2a b1
    go_wp2_with fail
    refine (C3.out _).mono ?_
    rintro e w3 ⟨v3, rfl, r3, b3a⟩
    have b3 := bstep b2 b2.size b3a
    clear b3a b2
    have C4 : Hid (Calls Tryd.prog 14 #[v3, .slice (some ⟨w3.heap.size, 0, none⟩) 2 2] (w3.alloc (.cells #[.int .i64 3, .string s, .int .i64 0, .int .i64 0, .int .i64 0, .string ⟨#[]⟩, .int .i64 0, .int .i64 (T.size : Int)] 35)) fun e w' => e = .returned (.tuple #[.bool true, .bool true]) ∧ Qt (w3.alloc (.cells #[.int .i64 3, .string s, .int .i64 0, .int .i64 0, .int .i64 0, .string ⟨#[]⟩, .int .i64 0, .int .i64 (T.size : Int)] 35)) w') := by
      refine same_eq _ _ [(3, L, 0, 0), (0, [], 0, (T.size : Int))] _ (Rep.below r3 ((Below.refl _ _).alloc (Nat.le_refl _) _)) ?_
      exact Blk.slice_enc (E := Rep.lx) (enc := lxC) (fun _ => rfl) (Blk.new w3 35 _) (by simp [lxC, ← HSX.out, show Rep.lx.size = 4 from rfl]) (fun _ _ => rfl) (Nat.le_refl _) (by decide)
    go_wp2_with fail
    refine C4.out.mono ?_
    rintro e w4 ⟨rfl, u4⟩
    have b4 := (b3.alloc b3.size (.cells #[.int .i64 3, .string s, .int .i64 0, .int .i64 0, .int .i64 0, .string ⟨#[]⟩, .int .i64 0, .int .i64 (T.size : Int)] 35)).trans (u4.below _)
    have HT6 := Lib.hid (HT.out.below b4)
    clear u4 b3
    go_wp2_with fail
    refine (alive_any _ HT6.out).mono ?_
    rintro e w7 ⟨rfl, hb⟩
    go_wp2_with fail
    go_ret
    exact ⟨rfl, bstep b4 b4.size hb⟩
  · have hq2 : quoteF s.data.toList = ([], 5) := by unfold quoteF; rw [if_neg hq]
    rw [hq2] at C1 C2
    clear hq hq2
    go_enter Tryd.func5, Tryd.ntmps5
    go_wp2_with fail
    refine (C1.out _).mono ?_
    rintro e w1 ⟨rfl, b1⟩
    go_wp2_with fail
    refine (C2.out _).mono ?_
    rintro e w2 ⟨rfl, b2a⟩
    have b2 := bstep b1 b1.size b2a
    have HT6 := Lib.hid (HT.out.below b2)
    clear b2a b1
    go_wp2_with fail
    refine (alive_any _ HT6.out).mono ?_
    rintro e w7 ⟨rfl, hb⟩
    go_wp2_with fail
    go_ret
    exact ⟨rfl, bstep b2 b2.size hb⟩
end Go.Proofs.YtjcecnlnmodkgaaDoor

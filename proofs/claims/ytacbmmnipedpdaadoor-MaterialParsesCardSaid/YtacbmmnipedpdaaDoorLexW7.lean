/- Chapter 07: IsMark and next of the program, by walking their text. -/
import Derived.Test.YtacbmmnipedpdaaDoorLexW6
namespace Go.Proofs.YtacbmmnipedpdaaDoor
open Go Go.RowKit

def isMkF (l : List UInt8) : Bool := l == [45, 62] || (match l with | [c] => lxMk c | _ => false)
theorem index_contains (l : List UInt8) (c : UInt8) : -1 ≤ Lib.indexByte l c ∧ (decide (0 ≤ Lib.indexByte l c) = l.contains c) := by
  induction l with
  | nil => exact ⟨Int.le_refl _, by simp [Lib.indexByte]⟩
  | cons b l ih =>
    obtain ⟨h1, h2⟩ := ih
    unfold Lib.indexByte
    by_cases hb : (b == c) = true
    · rw [if_pos hb]
      have : b = c := by simpa using hb
      subst this
      exact ⟨by decide, by simp⟩
    · rw [if_neg hb]
      have hbc : ¬ c = b := fun e => hb (by rw [e]; simp)
      by_cases hm : (Lib.indexByte l c == -1) = true
      · rw [if_pos hm]
        have hm' : Lib.indexByte l c = -1 := by simpa using hm
        rw [hm'] at h2
        refine ⟨by decide, ?_⟩
        rw [List.contains_cons, ← h2]
        simp [hbc]
      · rw [if_neg hm]
        have hm' : Lib.indexByte l c ≠ -1 := by simpa using hm
        refine ⟨by omega, ?_⟩
        rw [List.contains_cons, ← h2, show (c == b) = false from by simpa using hbc, Bool.false_or]
        exact decide_eq_decide.2 (by omega)
set_option maxHeartbeats 400000 in
theorem isMark_any (s : ByteArray) (w : World) (hs : s.size ≤ 4611686018427387904) : Calls Tryd.prog 79 #[.string s] w fun e w' => e = .returned (.bool (isMkF s.data.toList)) ∧ w = w' := by
  by_cases h1 : s.data.toList = [45, 62]
  · have e1 : (s.toList == [45, 62]) = true := by rw [ByteArray.toList_eq, h1]; rfl
    have HR : Hid (isMkF s.data.toList = true) := by show _ = _; unfold isMkF; rw [h1]; rfl
    clear h1
    go_enter Tryd.func79, Tryd.ntmps79
    go_wp2_with fail
    go_ret
    exact ⟨ret_bool HR.out.symm, by first | exact rfl | exact True.intro⟩
  have e1 : (s.toList == [45, 62]) = false := by rw [ByteArray.toList_eq]; exact beq_eq_false_iff_ne.2 h1
  by_cases h2 : s.size = 1
  · obtain ⟨c, hc⟩ : ∃ c, s = ⟨#[c]⟩ := by
      obtain ⟨⟨l⟩⟩ := s
      match l, h2 with
      | [c], _ => exact ⟨c, rfl⟩
    subst hc
    have HR : Hid (isMkF (⟨#[c]⟩ : ByteArray).data.toList = lxMk c) := by show _ = _; unfold isMkF; rw [beq_eq_false_iff_ne.2 h1]; rfl
    have CC := Lib.hid (fun w => Tryd.strings_Contains_one ⟨lxMks.toArray⟩ c w)
    have hx : decide (0 ≤ Lib.indexByte (⟨lxMks.toArray⟩ : ByteArray).data.toList c) = lxMk c := (index_contains lxMks c).2
    rw [hx] at CC
    clear hx h1 h2
    go_enter Tryd.func79, Tryd.ntmps79
    go_wp2_with (go_at_call 93; refine (CC.out _).mono ?_; rintro e w' ⟨rfl, rfl⟩)
    go_ret
    exact ⟨ret_bool HR.out.symm, by first | exact rfl | exact True.intro⟩
  · have e2 : ((s.size : Int) == 1) = false := ieq_f (by omega)
    have e3 : (s.size == 1) = false := by simpa using h2
    have HR : Hid (isMkF s.data.toList = false) := by
      show _ = _; unfold isMkF; rw [beq_eq_false_iff_ne.2 h1]
      have hl := size_list s
      match hm : s.data.toList with
      | [] => rfl
      | [c] => rw [hm] at hl; simp at hl; omega
      | a :: b :: r => rfl
    clear h1 h2
    go_enter Tryd.func79, Tryd.ntmps79
    go_wp2_with fail
    go_ret
    exact ⟨ret_bool HR.out.symm, by first | exact rfl | exact True.intro⟩
theorem oneV_parts (o : One) (i : Nat) : ∃ (k1 : Int) (k2 : ByteArray) (k3 k4 k5 k6 : Int), oneV o i = .tuple #[.agg #[.int .i64 k1, .string k2, .int .i64 k3, .int .i64 k4], .int .i64 k5, .int .i64 k6] := ⟨_, _, _, _, _, _, rfl⟩
theorem lx_cells {wr : World} {g : Nat} (h : Blk wr g 81 lx0) : wr.cell? ⟨g, 0, none⟩ = some (.int .i64 0) ∧ wr.cell? ⟨g, 1, none⟩ = some (.string ⟨#[]⟩) ∧ wr.cell? ⟨g, 2, none⟩ = some (.int .i64 0) ∧ wr.cell? ⟨g, 3, none⟩ = some (.int .i64 0) ∧
    wr.frozen? ⟨g, 0, none⟩ = false ∧ wr.frozen? ⟨g, 1, none⟩ = false ∧ wr.frozen? ⟨g, 2, none⟩ = false ∧ wr.frozen? ⟨g, 3, none⟩ = false :=
  ⟨h.cell 0, h.cell 1, h.cell 2, h.cell 3, h.free 0, h.free 1, h.free 2, h.free 3⟩
set_option maxRecDepth 100000 in
set_option maxHeartbeats 2000000 in
theorem next_call (s : ByteArray) (i : Nat) (c : UInt8) (t : List UInt8) (w : World) (hs : s.size ≤ 4611686018427387) (hd : s.data.toList.drop i = c :: t) (hz : s.size ≤ 140737488355000) (hc : lxLet c = true ∨ (lxLet c = false ∧ isDig c = true) ∨ (lxLet c = false ∧ isDig c = false ∧ (c == 34) = true)) :
    Calls Tryd.prog 63 #[.string s, .int .i64 (i : Int)] w (Ret (oneV (lxOne (c :: t)) i) w) := by
  have hi : i < s.size := by
    have := congrArg List.length hd
    rw [List.length_drop, size_list, List.length_cons] at this; omega
  have hc0 : s.data.toList[i]? = some c := by
    have : (s.data.toList.drop i)[0]? = some c := by rw [hd]; rfl
    rw [List.getElem?_drop] at this; exact this
  have CA := Lib.hid (fun w => at_lt s i c w (by omega) hc0)
  obtain ⟨k1, k2, k3, k4, k5, k6, hO⟩ := oneV_parts (lxOne (c :: t)) i
  rcases hc with h1 | ⟨h1, h2⟩ | ⟨h1, h2, h3⟩
  · have CN := Lib.hid (fun w => name_any s i c t w (by omega) hd h1)
    rw [hO] at CN ⊢
    clear hd hc0 hO
    go_enter Tryd.func63, Tryd.ntmps63
    go_wp2_with (first | (go_at_call 73; refine (isLetter_any c _).mono ?_; rintro e w' ⟨rfl, rfl⟩) | (go_at_call 75; refine (isDigit_any c _).mono ?_; rintro e w' ⟨rfl, rfl⟩) | (go_at_call 72; refine (CA.out _).mono ?_; rintro e w' ⟨rfl, rfl⟩))
    refine (CN.out _).mono ?_
    rintro e w2 ⟨rfl, hb⟩
    have hblk := (Blk.new w 81 lx0).below hb (by simp)
    have hsz := hb.size
    obtain ⟨q0, q1, q2, q3, f0, f1, f2, f3⟩ := lx_cells hblk
    have hb2 := ((Below.refl w.heap.size w).alloc (Nat.le_refl _) (.cells lx0 81)).trans (hb.mono (by simp))
    go_wp2_with fail
    exact bodyPost_ret (v := .tuple #[.agg #[.int .i64 k1, .string k2, .int .i64 k3, .int .i64 k4], .int .i64 k5, .int .i64 k6]) (by simp [results, Tryd.results63, go_sem, q0, q1, q2, q3]) rfl ⟨rfl, (((hb2.setCell (by simp) _).setCell (by simp) _).setCell (by simp) _).setCell (by simp) _⟩
  · have CN := Lib.hid (fun w => number_any s i c t w (by omega) hd h1 h2)
    rw [hO] at CN ⊢
    clear hd hc0 hO
    go_enter Tryd.func63, Tryd.ntmps63
    go_wp2_with (first | (go_at_call 73; refine (isLetter_any c _).mono ?_; rintro e w' ⟨rfl, rfl⟩) | (go_at_call 75; refine (isDigit_any c _).mono ?_; rintro e w' ⟨rfl, rfl⟩) | (go_at_call 72; refine (CA.out _).mono ?_; rintro e w' ⟨rfl, rfl⟩))
    refine (CN.out _).mono ?_
    rintro e w2 ⟨rfl, hb⟩
    have hblk := (Blk.new w 81 lx0).below hb (by simp)
    have hsz := hb.size
    obtain ⟨q0, q1, q2, q3, f0, f1, f2, f3⟩ := lx_cells hblk
    have hb2 := ((Below.refl w.heap.size w).alloc (Nat.le_refl _) (.cells lx0 81)).trans (hb.mono (by simp))
    go_wp2_with fail
    exact bodyPost_ret (v := .tuple #[.agg #[.int .i64 k1, .string k2, .int .i64 k3, .int .i64 k4], .int .i64 k5, .int .i64 k6]) (by simp [results, Tryd.results63, go_sem, q0, q1, q2, q3]) rfl ⟨rfl, (((hb2.setCell (by simp) _).setCell (by simp) _).setCell (by simp) _).setCell (by simp) _⟩
  · have CN := Lib.hid (fun w => quoted_any s i c t w hs hd hz h1 h2 h3)
    rw [hO] at CN ⊢
    have e34 : ((c.toNat : Int) == 34) = true := u8yes (k := 34) (by decide) h3
    clear hd hc0 hO h3
    go_enter Tryd.func63, Tryd.ntmps63
    go_wp2_with (first | (go_at_call 73; refine (isLetter_any c _).mono ?_; rintro e w' ⟨rfl, rfl⟩) | (go_at_call 75; refine (isDigit_any c _).mono ?_; rintro e w' ⟨rfl, rfl⟩) | (go_at_call 72; refine (CA.out _).mono ?_; rintro e w' ⟨rfl, rfl⟩))
    refine (CN.out _).mono ?_
    rintro e w2 ⟨rfl, hb⟩
    have hblk := (Blk.new w 81 lx0).below hb (by simp)
    have hsz := hb.size
    obtain ⟨q0, q1, q2, q3, f0, f1, f2, f3⟩ := lx_cells hblk
    have hb2 := ((Below.refl w.heap.size w).alloc (Nat.le_refl _) (.cells lx0 81)).trans (hb.mono (by simp))
    go_wp2_with fail
    exact bodyPost_ret (v := .tuple #[.agg #[.int .i64 k1, .string k2, .int .i64 k3, .int .i64 k4], .int .i64 k5, .int .i64 k6]) (by simp [results, Tryd.results63, go_sem, q0, q1, q2, q3]) rfl ⟨rfl, (((hb2.setCell (by simp) _).setCell (by simp) _).setCell (by simp) _).setCell (by simp) _⟩
theorem extract_list (s : ByteArray) (i k : Nat) : (s.extract i k).data.toList = (s.data.toList.drop i).take (k - i) := by rw [extract_eq]
set_option maxRecDepth 100000 in
set_option maxHeartbeats 2000000 in
theorem next_mark (s : ByteArray) (i : Nat) (c : UInt8) (t : List UInt8) (w : World) (hs : s.size ≤ 4611686018427387) (hd : s.data.toList.drop i = c :: t) (h1 : lxLet c = false) (h2 : isDig c = false) (h3 : (c == 34) = false) :
    Calls Tryd.prog 63 #[.string s, .int .i64 (i : Int)] w (Ret (oneV (lxOne (c :: t)) i) w) := by
  have hlen : s.size - i = t.length + 1 := by
    have := congrArg List.length hd
    rw [List.length_drop, size_list, List.length_cons] at this; exact this
  have hi : i < s.size := by omega
  have hc0 : s.data.toList[i]? = some c := by
    have : (s.data.toList.drop i)[0]? = some c := by rw [hd]; rfl
    rw [List.getElem?_drop] at this; exact this
  have CA := Lib.hid (fun w => at_lt s i c w (by omega) hc0)
  have CH := Lib.hid (fun w => Tryd.strings_HasPrefix (s.extract i s.size) ⟨#[45, 62]⟩ w)
  have CM := Lib.hid (fun w => isMark_any (s.extract i (i + 1)) w (by rw [← size_list, extract_list, List.length_take]; omega))
  have hp : Lib.hasPrefix (s.extract i s.size).data.toList (⟨#[45, 62]⟩ : ByteArray).data.toList = (c == 45 && t.head? == some 62) := by
    rw [extract_list, hd, List.take_of_length_le (by rw [List.length_cons]; omega)]
    unfold Lib.hasPrefix
    cases t with
    | nil => simp [List.isPrefixOf]
    | cons d u =>
      simp only [List.isPrefixOf, List.head?_cons]
      rw [Bool.eq_iff_iff]
      constructor
      · intro h; simp at h; obtain ⟨rfl, rfl⟩ := h; simp
      · intro h; simp at h; obtain ⟨rfl, rfl⟩ := h; simp
  have hm1 : (s.extract i (i + 1)).data.toList = [c] := by rw [extract_list, hd, show i + 1 - i = 1 by omega]; rfl
  have hm : isMkF (s.extract i (i + 1)).data.toList = lxMk c := by rw [hm1]; simp [isMkF]
  rw [hp] at CH
  rw [hm] at CM
  have hex : s.extract i (i + 1) = ⟨#[c]⟩ := by rw [extract_eq, hd, show i + 1 - i = 1 by omega]; rfl
  have HEX := Lib.hid hex
  have HO : Hid (lxOne (c :: t) = if (c == 45 && t.head? == some 62) = true then (4, [45, 62], 0, 2, 0) else if lxMk c = true then (4, [c], 0, 1, 0) else (0, [], 0, 0, 5)) := by
    show _ = _; rw [lxOne, if_neg (by rw [h1]; simp), if_neg (by rw [h2]; simp), if_neg (by rw [h3]; simp)]
  have e34 : ((c.toNat : Int) == 34) = false := u8ne (k := 34) (by decide) h3
  generalize (c == 45 && t.head? == some 62) = ba at *
  generalize lxMk c = bm at *
  clear hp hm hm1 hd hc0 hlen hex h3
  cases ba
  · cases bm
    · have HR : Hid (oneV (lxOne (c :: t)) i = .tuple #[.agg #[.int .i64 0, .string ⟨#[]⟩, .int .i64 0, .int .i64 0], .int .i64 (i : Int), .int .i64 5]) := by
        show _ = _; rw [HO.out]; simp [oneV, oneX, lxV]
      clear HO
      go_enter Tryd.func63, Tryd.ntmps63
      go_wp2_with (first | (go_at_call 73; refine (isLetter_any c _).mono ?_; rintro e w' ⟨rfl, rfl⟩) | (go_at_call 75; refine (isDigit_any c _).mono ?_; rintro e w' ⟨rfl, rfl⟩) | (go_at_call 72; refine (CA.out _).mono ?_; rintro e w' ⟨rfl, rfl⟩) | (go_at_call 78; refine (CH.out _).mono ?_; rintro e w' ⟨rfl, rfl⟩) | (go_at_call 79; refine (CM.out _).mono ?_; rintro e w' ⟨rfl, rfl⟩))
      rw [HR.out]
      exact bodyPost_ret (v := .tuple #[.agg #[.int .i64 0, .string ⟨#[]⟩, .int .i64 0, .int .i64 0], .int .i64 (i : Int), .int .i64 5]) (by simp [results, Tryd.results63, go_sem]) rfl ⟨rfl, (Below.refl _ _).alloc (Nat.le_refl _) _⟩
    · have HR : Hid (oneV (lxOne (c :: t)) i = .tuple #[.agg #[.int .i64 4, .string (s.extract i (i + 1)), .int .i64 0, .int .i64 i], .int .i64 ((i : Int) + 1), .int .i64 0]) := by
        show _ = _; rw [HO.out, HEX.out]; simp [oneV, oneX, lxV]
      clear HO
      go_enter Tryd.func63, Tryd.ntmps63
      go_wp2_with (first | (go_at_call 73; refine (isLetter_any c _).mono ?_; rintro e w' ⟨rfl, rfl⟩) | (go_at_call 75; refine (isDigit_any c _).mono ?_; rintro e w' ⟨rfl, rfl⟩) | (go_at_call 72; refine (CA.out _).mono ?_; rintro e w' ⟨rfl, rfl⟩) | (go_at_call 78; refine (CH.out _).mono ?_; rintro e w' ⟨rfl, rfl⟩) | (go_at_call 79; refine (CM.out _).mono ?_; rintro e w' ⟨rfl, rfl⟩))
      rw [HR.out]
      exact bodyPost_ret (v := .tuple #[.agg #[.int .i64 4, .string (s.extract i (i + 1)), .int .i64 0, .int .i64 i], .int .i64 ((i : Int) + 1), .int .i64 0]) (by simp [results, Tryd.results63, go_sem]) rfl ⟨rfl, (Below.refl _ _).alloc (Nat.le_refl _) _⟩
  · have HR : Hid (oneV (lxOne (c :: t)) i = .tuple #[.agg #[.int .i64 4, .string ⟨#[45, 62]⟩, .int .i64 0, .int .i64 i], .int .i64 ((i : Int) + 2), .int .i64 0]) := by
      show _ = _; rw [HO.out]; simp [oneV, oneX, lxV]
    clear HO
    go_enter Tryd.func63, Tryd.ntmps63
    go_wp2_with (first | (go_at_call 73; refine (isLetter_any c _).mono ?_; rintro e w' ⟨rfl, rfl⟩) | (go_at_call 75; refine (isDigit_any c _).mono ?_; rintro e w' ⟨rfl, rfl⟩) | (go_at_call 72; refine (CA.out _).mono ?_; rintro e w' ⟨rfl, rfl⟩) | (go_at_call 78; refine (CH.out _).mono ?_; rintro e w' ⟨rfl, rfl⟩) | (go_at_call 79; refine (CM.out _).mono ?_; rintro e w' ⟨rfl, rfl⟩))
    rw [HR.out]
    exact bodyPost_ret (v := .tuple #[.agg #[.int .i64 4, .string ⟨#[45, 62]⟩, .int .i64 0, .int .i64 i], .int .i64 ((i : Int) + 2), .int .i64 0]) (by simp [results, Tryd.results63, go_sem]) rfl ⟨rfl, (Below.refl _ _).alloc (Nat.le_refl _) _⟩
theorem next_any (s : ByteArray) (i : Nat) (c : UInt8) (t : List UInt8) (w : World) (hz : s.size ≤ 140737488355000) (hd : s.data.toList.drop i = c :: t) :
    Calls Tryd.prog 63 #[.string s, .int .i64 (i : Int)] w (Ret (oneV (lxOne (c :: t)) i) w) := by
  by_cases h1 : lxLet c = true
  · exact next_call s i c t w (by omega) hd hz (.inl h1)
  have h1' : lxLet c = false := by simpa using h1
  by_cases h2 : isDig c = true
  · exact next_call s i c t w (by omega) hd hz (.inr (.inl ⟨h1', h2⟩))
  have h2' : isDig c = false := by simpa using h2
  by_cases h3 : (c == 34) = true
  · exact next_call s i c t w (by omega) hd hz (.inr (.inr ⟨h1', h2', h3⟩))
  · exact next_mark s i c t w (by omega) hd h1' h2' (by simpa using h3)
end Go.Proofs.YtacbmmnipedpdaaDoor

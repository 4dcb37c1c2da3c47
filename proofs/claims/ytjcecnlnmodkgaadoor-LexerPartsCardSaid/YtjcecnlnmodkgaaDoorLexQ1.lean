/- Chapter 07: Quote of the program and of the reference, by walking their text. -/
import Derived.Test.YtjcecnlnmodkgaaDoorLexR2
namespace Go.Proofs.YtjcecnlnmodkgaaDoor
open Go Go.RowKit

def qtOk (s : ByteArray) : Bool := s.data.toList.all qtC
def QuoteRet (s : ByteArray) (w : World) (e : Ending) (w' : World) : Prop := e = .returned (.tuple #[.string ⟨(quoteF s.data.toList).1.toArray⟩, .int .i64 (quoteF s.data.toList).2]) ∧ Below w.heap.size w w'
theorem quote_bad {l : List UInt8} {k : Nat} {c : UInt8} (hc : l[k]? = some c) (h : qtC c = false) : quoteF l = ([], 5) := by
  unfold quoteF; rw [if_neg (by rw [all_bad hc h]; simp)]
theorem quote_good {l acc : List UInt8} (h : (l.take l.length).all qtC = true) (ha : acc = 34 :: (l.take l.length).flatMap esc) : quoteF l = (acc ++ [34], 0) := by
  rw [List.take_length] at h ha
  unfold quoteF; rw [if_pos h, ha]; rfl
theorem esc_step {l : List UInt8} {k : Nat} {c : UInt8} (hc : l[k]? = some c) : (34 : UInt8) :: (l.take (k + 1)).flatMap esc = (34 :: (l.take k).flatMap esc) ++ esc c := by
  rw [take_one hc, List.flatMap_append]; simp
theorem esc_len (c : UInt8) : (esc c).length ≤ 2 := by unfold esc; split <;> (try split) <;> simp
theorem qt_cases {c : UInt8} : (lxPl c = true ∧ qtC c = true ∧ esc c = [c]) ∨ (lxPl c = false ∧ ((c.toNat : Int) == 34) = true ∧ qtC c = true ∧ esc c = [92, c]) ∨ (lxPl c = false ∧ ((c.toNat : Int) == 34) = false ∧ ((c.toNat : Int) == 92) = true ∧ qtC c = true ∧ esc c = [92, c]) ∨
    (lxPl c = false ∧ ((c.toNat : Int) == 34) = false ∧ ((c.toNat : Int) == 92) = false ∧ ((c.toNat : Int) == 10) = true ∧ qtC c = true ∧ esc c = [92, 110]) ∨ (lxPl c = false ∧ ((c.toNat : Int) == 34) = false ∧ ((c.toNat : Int) == 92) = false ∧ ((c.toNat : Int) == 10) = false ∧ qtC c = false) := by
  have e34 : ((c.toNat : Int) == 34) = (c == 34) := (u8eq c 34 (by decide)).symm
  have e92 : ((c.toNat : Int) == 92) = (c == 92) := (u8eq c 92 (by decide)).symm
  have e10 : ((c.toNat : Int) == 10) = (c == 10) := (u8eq c 10 (by decide)).symm
  rw [e34, e92, e10]
  by_cases h1 : lxPl c = true
  · exact .inl ⟨h1, by unfold qtC; rw [h1]; rfl, esc_pl h1⟩
  have h1' : lxPl c = false := by simpa using h1
  by_cases h2 : (c == 34) = true
  · exact .inr (.inl ⟨h1', h2, by unfold qtC; rw [h2]; simp, esc_two (by rw [h2]; rfl)⟩)
  have h2' : (c == 34) = false := by simpa using h2
  by_cases h3 : (c == 92) = true
  · exact .inr (.inr (.inl ⟨h1', h2', h3, by unfold qtC; rw [h3]; simp, esc_two (by rw [h3]; simp)⟩))
  have h3' : (c == 92) = false := by simpa using h3
  by_cases h4 : (c == 10) = true
  · exact .inr (.inr (.inr (.inl ⟨h1', h2', h3', h4, by unfold qtC; rw [h4]; simp, by unfold esc; rw [if_pos h4]⟩)))
  have h4' : (c == 10) = false := by simpa using h4
  exact .inr (.inr (.inr (.inr ⟨h1', h2', h3', h4', by unfold qtC; rw [h1', h2', h3', h4']; rfl⟩)))
set_option maxRecDepth 100000 in
set_option maxHeartbeats 4000000 in
theorem quote_any (s : ByteArray) (w : World) (hz : s.size ≤ 70368744177000) : Calls Tryd.prog 15 #[.string s] w (QuoteRet s w) := by
  go_enter Tryd.func15, Tryd.ntmps15
  go_wp2_with fail
  refine (bld_byte w.heap.size w.heap.size [] 34 _ (bl_fresh w) (by simp) (by simp)).mono ?_
  rintro e w1 ⟨rfl, hbl1, hb1⟩
  have hbw1 := ((Below.refl w.heap.size w).alloc (Nat.le_refl _) (.cells #[.pointer none, .slice none 0 0] 47)).trans hb1
  have hs1 := hbw1.size
  clear hb1
  go_wp2_with fail
  go_loopw [5, 6, 10] (fun _ _ i wr => ∃ (k : Nat) (acc : List UInt8), k ≤ s.size ∧ i = .int .i64 k ∧ Bl w.heap.size w.heap.size acc wr ∧ Below w.heap.size w wr ∧ acc.length ≤ 2 * k + 1 ∧ Hid ((s.data.toList.take k).all qtC = true) ∧ Hid (acc = 34 :: (s.data.toList.take k).flatMap esc)) (fun _ _ i _ => s.size - (intOf i).toNat)
  case atStart => exact ⟨0, [34], by omega, rfl, hbl1, hbw1, by simp, by show _ = _; simp, by show _ = _; simp⟩
  case round =>
    obtain ⟨k, acc, hk, rfl, hbl, hbw, hal, hA, hE⟩ := hrel
    have hsz := hbw.size
    by_cases hlt : k < s.size
    · obtain ⟨c, t, -, hc, -⟩ := drop_at (D := s.data.toList) (k := k) (by rw [size_list]; exact hlt)
      have hsk := byte_at hlt hc
      have hcb := UInt8.toNat_lt c
      have HES := Lib.hid (esc_step hc)
      have HA := fun h => Lib.hid (all_take_succ hA.out hc h)
      have HBAD := fun h => Lib.hid (quote_bad hc h)
      have hel := esc_len c
      clear hc hbl1 hbw1
      rcases qt_cases (c := c) with ⟨p1, p2, p3⟩ | ⟨p1, p2, p3, p4⟩ | ⟨p1, p2, p3, p4, p5⟩ | ⟨p1, p2, p3, p4, p5, p6⟩ | ⟨p1, p2, p3, p4, p5⟩
      · have HA' := HA p2
        rw [p3] at HES
        clear HA HBAD p2 p3 hel
        go_wp2_with (go_at_call 26; refine (plain_any c _).mono ?_; rintro e w' ⟨rfl, rfl⟩)
        refine (bld_byte w.heap.size w.heap.size acc c _ hbl (by omega) hsz).mono ?_
        rintro e w2 ⟨rfl, hbl2, hb2⟩
        have hbw2 := hbw.trans hb2
        clear hb2
        go_wp2_with fail
        go_roundw
        case rel => exact ⟨k + 1, acc ++ [c], by omega, by go_num, hbl2, hbw2, by simp; omega, HA', by show _ = _; rw [HES.out, hE.out]⟩
        case measure => simp [intOf] <;> omega
      · have HA' := HA p3
        rw [p4] at HES
        clear HA HBAD p3 p4 hel
        go_wp2_with (go_at_call 26; refine (plain_any c _).mono ?_; rintro e w' ⟨rfl, rfl⟩)
        refine (bld_byte w.heap.size w.heap.size acc 92 _ hbl (by omega) hsz).mono ?_
        rintro e w2 ⟨rfl, hbl2, hb2⟩
        have hbw2 := hbw.trans hb2
        have hsz2 := hbw2.size
        clear hb2
        go_wp2_with fail
        refine (bld_byte w.heap.size w.heap.size (acc ++ [92]) c _ hbl2 (by simp; omega) hsz2).mono ?_
        rintro e w3 ⟨rfl, hbl3, hb3⟩
        have hbw3 := hbw2.trans hb3
        clear hb3
        go_wp2_with fail
        go_roundw
        case rel => exact ⟨k + 1, acc ++ [92] ++ [c], by omega, by go_num, hbl3, hbw3, by simp; omega, HA', by show _ = _; rw [HES.out, hE.out]; simp⟩
        case measure => simp [intOf] <;> omega
      · have HA' := HA p4
        rw [p5] at HES
        clear HA HBAD p4 p5 hel
        go_wp2_with (go_at_call 26; refine (plain_any c _).mono ?_; rintro e w' ⟨rfl, rfl⟩)
        refine (bld_byte w.heap.size w.heap.size acc 92 _ hbl (by omega) hsz).mono ?_
        rintro e w2 ⟨rfl, hbl2, hb2⟩
        have hbw2 := hbw.trans hb2
        have hsz2 := hbw2.size
        clear hb2
        go_wp2_with fail
        refine (bld_byte w.heap.size w.heap.size (acc ++ [92]) c _ hbl2 (by simp; omega) hsz2).mono ?_
        rintro e w3 ⟨rfl, hbl3, hb3⟩
        have hbw3 := hbw2.trans hb3
        clear hb3
        go_wp2_with fail
        go_roundw
        case rel => exact ⟨k + 1, acc ++ [92] ++ [c], by omega, by go_num, hbl3, hbw3, by simp; omega, HA', by show _ = _; rw [HES.out, hE.out]; simp⟩
        case measure => simp [intOf] <;> omega
      · have HA' := HA p5
        rw [p6] at HES
        clear HA HBAD p5 p6 hel
        go_wp2_with (go_at_call 26; refine (plain_any c _).mono ?_; rintro e w' ⟨rfl, rfl⟩)
        refine (bld_str w.heap.size w.heap.size acc ⟨#[92, 110]⟩ _ hbl (by show acc.length + 2 ≤ _; omega) hsz).mono ?_
        rintro e w2 ⟨rfl, hbl2, hb2⟩
        have hbw2 := hbw.trans hb2
        clear hb2
        go_wp2_with fail
        go_roundw
        case rel => exact ⟨k + 1, acc ++ [92, 110], by omega, by go_num, hbl2, hbw2, by simp; omega, HA', by show _ = _; rw [HES.out, hE.out]⟩
        case measure => simp [intOf] <;> omega
      · have HB := HBAD p5
        clear HA HBAD p5 hel HES
        go_wp2_with (go_at_call 26; refine (plain_any c _).mono ?_; rintro e w' ⟨rfl, rfl⟩)
        go_ret2
        unfold QuoteRet
        rw [HB.out]
        exact ⟨rfl, hbw⟩
    · obtain rfl : k = s.size := by omega
      have HG : Hid (quoteF s.data.toList = (acc ++ [34], 0)) := quote_good (by rw [size_list]; exact hA.out) (by rw [size_list]; exact hE.out)
      clear hA hE hbl1 hbw1
      go_wp2_with fail
      refine (bld_byte w.heap.size w.heap.size acc 34 _ hbl (by omega) hsz).mono ?_
      rintro e w2 ⟨rfl, hbl2, hb2⟩
      have hbw2 := hbw.trans hb2
      have hsz2 := hbw2.size
      clear hb2
      go_wp2_with fail
      refine (Tryd.Builder_String_any_k w.heap.size w.heap.size (acc ++ [34]) _ hbl2 hsz2).mono ?_
      rintro e w3 ⟨rfl, _, hb3, _⟩
      go_wp2_with fail
      go_ret2
      unfold QuoteRet
      rw [HG.out]
      exact ⟨rfl, hbw2.trans hb3⟩
end Go.Proofs.YtjcecnlnmodkgaaDoor

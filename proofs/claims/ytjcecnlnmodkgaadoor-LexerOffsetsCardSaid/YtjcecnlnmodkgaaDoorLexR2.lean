/- Chapter 07: text of the reference, by walking its text. -/
import Derived.Test.YtjcecnlnmodkgaaDoorLexR1
import Derived.Laws.IdiomStrings
namespace Go.Proofs.YtjcecnlnmodkgaaDoor
open Go Go.RowKit

def OwnB (w : World) (base : Nat) (v : Value) (l : List UInt8) : Prop := w.ownsRow base 5 1 v l.length (Lib.byteCells l)
theorem ownB_snoc {w : World} {base : Nat} {v : Value} {l : List UInt8} {c : UInt8} (h : w.ownsRow base 5 1 v (l.length + 1) (Lib.byteCells l ++ [.int .u8 (c.toNat : Int)])) : OwnB w base v (l ++ [c]) := by
  unfold OwnB
  rw [List.length_append, ← bc_one]
  exact h
theorem conv_own {w : World} {base : Nat} {v : Value} {l : List UInt8} (h : OwnB w base v l) : (convert 30 9 v).run Tryd.prog w = .ok (.string ⟨l.toArray⟩) w := by
  have h0 := h
  unfold OwnB at h
  rcases h.2 with ⟨rfl, hn⟩ | ⟨g, cap, cur, rfl, hb, hh, hnc, hcm, hcs, ht⟩
  · have : l = [] := List.eq_nil_of_length_eq_zero hn
    subst this
    rw [run_convert_bytes_string w 30 9 5 none 0 0 Tryd.underlying30 Tryd.underlying5 Tryd.underlying9]
    rfl
  · exact run_convert_bytes_back w _ _ _ _ cap l Tryd.underlying30 Tryd.underlying5 Tryd.underlying9 (fun j hj => World.ownsRow.cells h0 (g := g) rfl j _ (by rw [Lib.byteCells, List.getElem?_map, List.getElem?_eq_getElem hj]; rfl))
def TextRes (t : List UInt8) (i : Nat) (w : World) (e : Ending) (w' : World) : Prop :=
  e = .returned (.tuple #[.string (if (qs t).2.2 = true then ⟨(qs t).1.toArray⟩ else ⟨#[]⟩), .int .i64 ((i : Int) + 1 + ((qs t).2.1 : Int)), .int .i64 (if (qs t).2.2 = true then 0 else 5)]) ∧ Below w.heap.size w w'
theorem pl_int {c : UInt8} (h : lxPl c = true) : ¬ (c.toNat : Int) < 32 ∧ ¬ (126 : Int) < (c.toNat : Int) ∧ ((c.toNat : Int) == 34) = false ∧ ((c.toNat : Int) != 92) = true := by
  rw [lxPl_int] at h
  rw [bne]
  cases h3 : ((c.toNat : Int) == 34) <;> cases h4 : ((c.toNat : Int) == 92) <;> simp_all
set_option maxRecDepth 100000 in
set_option maxHeartbeats 8000000 in
theorem refText7_any (s : ByteArray) (i : Nat) (c0 : UInt8) (t : List UInt8) (w : World) (hz : s.size ≤ 140737488355000) (hd : s.data.toList.drop i = c0 :: t) :
    Calls Tryd.prog 46 #[.string s, .int .i64 (i : Int)] w (TextRes t i w) := by
  have hi : i < s.size := by
    have := congrArg List.length hd
    rw [List.length_drop, size_list, List.length_cons] at this; omega
  have ht : s.data.toList.drop (i + 1) = t := by
    have := congrArg (List.drop 1) hd
    rw [List.drop_drop] at this; exact this
  obtain ⟨i0, hinf, hz0, hz1, hz2⟩ := info_parts byte_info
  have HQ0 : Hid (QRel s t i (i + 1) []) := by
    show QRel _ _ _ _ _
    unfold QRel
    rw [ht]; simp
  clear hd ht
  go_enter Tryd.func46, Tryd.ntmps46
  go_wp2
  go_loopw [7, 8] (fun o e wr => ∃ (m : Nat) (acc : List UInt8), m ≤ s.size ∧ i + 1 ≤ m ∧ e = .int .i64 m ∧ Hid (QRel s t i m acc) ∧ acc.length ≤ m ∧ OwnB wr w.heap.size o acc ∧ Below w.heap.size w wr) (fun _ e _ => s.size - (intOf e).toNat)
  case atStart => exact ⟨i + 1, [], by omega, Nat.le_refl _, by go_num, HQ0, by simp, World.ownsRow_nil _ _ _ _, Below.refl _ _⟩
  case round =>
    obtain ⟨m, acc, hm, him, rfl, hQ, hal, hown, hbw⟩ := hrel
    have hsz := hbw.size
    have hbl := Lib.byteCells_length acc
    by_cases hlt : m < s.size
    · obtain ⟨c, u, hd, hc, hd2⟩ := drop_at (D := s.data.toList) (k := m) (by rw [size_list]; exact hlt)
      have hsm := byte_at hlt hc
      have hcb := UInt8.toNat_lt c
      obtain ⟨d, hdm⟩ : ∃ d, hdB s.data.toList (m + 1) = d := ⟨_, rfl⟩
      have hud : u.headD 0 = d := by rw [← hdm]; exact (hdB_of hd2).symm
      have hnx : (∃ h : m + 1 < s.size, s[m + 1] = d) ∨ (m + 1 = s.size ∧ d = 0) := by
        rcases Nat.lt_or_ge (m + 1) s.size with h | h
        · obtain ⟨d', _, _, hc', _⟩ := drop_at (D := s.data.toList) (k := m + 1) (by rw [size_list]; exact h)
          exact .inl ⟨h, by rw [byte_at h hc', ← hdm, hdB_lt hc']⟩
        · exact .inr ⟨by omega, by rw [← hdm, hdB_end (by rw [size_list]; exact h)]⟩
      have HD := Lib.hid hd
      have HD2 := Lib.hid hd2
      have HDM := Lib.hid hdm
      have HUD := Lib.hid hud
      clear hd hd2 hdm hud hc
      by_cases h34 : (c == 34) = true
      · have e34 : ((c.toNat : Int) == 34) = true := u8yes (k := 34) (by decide) h34
        have HR : Hid ((qs t).2.2 = true ∧ (qs t).1 = acc ∧ (i : Int) + 1 + ((qs t).2.1 : Int) = (m : Int) + 1) := by
          have hq := hQ.out
          unfold QRel at hq
          have ec : c = 34 := by simpa using h34
          rw [HD.out, ec, qs_quote] at hq
          show _ ∧ _; rw [hq]; simp; omega
        have hcv := conv_own hown
        clear h34 hQ hnx
        go_wp2_with fail
        go_ret3
        obtain ⟨r1, r2, r3⟩ := HR.out
        unfold TextRes
        rw [r1, if_pos rfl, if_pos rfl, r2, r3]
        exact ⟨rfl, hbw⟩
      have h34' : (c == 34) = false := by simpa using h34
      have e34 : ((c.toNat : Int) == 34) = false := u8ne (k := 34) (by decide) h34'
      by_cases hp : lxPl c = true
      · have HQ := Lib.hid (hQ.out.pl him HD.out HD2.out hp)
        obtain ⟨p1, p2, -, p4⟩ := pl_int hp
        clear h34 h34' hQ HD HD2 HDM HUD hp hnx
        go_wp2_with (at_builtin; refine wpList_append_own _ rfl _ _ 30 rfl w.heap.size 5 i0 (.int .u8 0) 1 1 Tryd.underlying30 hinf hz0 hz1 hz2 rfl (by decide) _ _ _ rfl (World.ownsRow.alloc hown _) ⟨wr.heap.size, 0, none⟩ 1 1 [.int .u8 (c.toNat : Int)] rfl rfl (new1_cells _ _ _) (one_oneCell rfl) (by unfold maxLen; omega) (by omega) (by simp; omega) ?_)
        intro v2 w2 hown2 hg2 _
        have hown3 := ownB_snoc hown2
        have hbw2 := (hbw.alloc hsz _).grown hg2 (by simp; omega) (fun j hj => (World.ownsRow.lt hown j hj).1)
        clear hown2 hg2
        go_wp2_with fail
        go_roundw
        case rel => exact ⟨m + 1, acc ++ [c], by omega, by omega, by go_num, HQ, by simp; omega, hown3, hbw2⟩
        case measure => simp [intOf] <;> omega
      have hp' : lxPl c = false := by simpa using hp
      have hpc : (c.toNat : Int) < 32 ∨ (¬ (c.toNat : Int) < 32 ∧ (126 : Int) < (c.toNat : Int)) ∨ (¬ (c.toNat : Int) < 32 ∧ ¬ (126 : Int) < (c.toNat : Int) ∧ ((c.toNat : Int) == 92) = true) := by
        rw [lxPl_int, e34] at hp'
        cases h4 : ((c.toNat : Int) == 92)
        · rw [h4] at hp'
          simp at hp'
          omega
        · have := of_decide_eq_true h4
          exact .inr (.inr ⟨by omega, by omega, rfl⟩)
      have hbadE : qs (c :: u) = ([], 0, false) → Hid ((qs t).2.2 = false ∧ (i : Int) + 1 + ((qs t).2.1 : Int) = (m : Int)) := fun hbad => by
        have hq := hQ.out
        unfold QRel at hq
        rw [HD.out, hbad] at hq
        show _ ∧ _; rw [hq]; simp; omega
      rcases hpc with p1 | ⟨p1, p2⟩ | ⟨p1, p2, h92i⟩
      · have h92 : (c == 92) = false := by rw [beq_eq_false_iff_ne]; rintro rfl; exact absurd p1 (by decide)
        have HR := hbadE (qs_bad (u := u) h34' hp' (.inl h92))
        clear h34 h34' hQ HD HD2 HDM HUD hp hp' hnx hbadE h92
        go_wp2_with fail
        go_ret3
        obtain ⟨r1, r2⟩ := HR.out
        unfold TextRes
        rw [r1, if_neg (by simp), if_neg (by simp), r2]
        exact ⟨rfl, hbw⟩
      · have h92 : (c == 92) = false := by rw [beq_eq_false_iff_ne]; rintro rfl; exact absurd p2 (by decide)
        have HR := hbadE (qs_bad (u := u) h34' hp' (.inl h92))
        clear h34 h34' hQ HD HD2 HDM HUD hp hp' hnx hbadE h92
        go_wp2_with fail
        go_ret3
        obtain ⟨r1, r2⟩ := HR.out
        unfold TextRes
        rw [r1, if_neg (by simp), if_neg (by simp), r2]
        exact ⟨rfl, hbw⟩
      · have h92 : (c == 92) = true := by
          have := of_decide_eq_true h92i
          have e : c = 92 := UInt8.toNat_inj.1 (by have h92n : (92 : UInt8).toNat = 92 := rfl; omega)
          rw [e]; rfl
        have e92 : ((c.toNat : Int) != 92) = false := by rw [bne, h92i]; rfl
        rcases hnx with ⟨hm1, hsn⟩ | ⟨hm1, hd0⟩
        · have hdb := UInt8.toNat_lt d
          have hl1 : ((m : Int) + 1 == (s.size : Int)) = false := ieq_f (by omega)
          have hl2 : (m + 1 == s.size) = false := by simp; omega
          by_cases g34 : (d == 34) = true
          · have ed : ((d.toNat : Int) != 34) = false := by rw [bne, show ((d.toNat : Int) == 34) = true from u8yes (k := 34) (by decide) g34]; rfl
            have ed2 : ((d.toNat : Int) == 110) = false := ieq_f (by have := of_decide_eq_true (u8yes (k := 34) (by decide) g34); omega)
            have hd0 : d ≠ 0 := by rintro rfl; exact absurd g34 (by decide)
            have HQ := Lib.hid (hQ.out.two him HD.out (drop_hd HDM.out hd0) HD2.out h92 (by rw [g34]; rfl))
            clear h34 h34' hQ HD HD2 HDM HUD hp hp' hbadE h92 g34 hd0 h92i
            go_wp2_with (at_builtin; refine wpList_append_own _ rfl _ _ 30 rfl w.heap.size 5 i0 (.int .u8 0) 1 1 Tryd.underlying30 hinf hz0 hz1 hz2 rfl (by decide) _ _ _ rfl (World.ownsRow.alloc hown _) ⟨wr.heap.size, 0, none⟩ 1 1 [.int .u8 (d.toNat : Int)] rfl rfl (new1_cells _ _ _) (one_oneCell rfl) (by unfold maxLen; omega) (by omega) (by simp; omega) ?_)
            intro v2 w2 hown2 hg2 _
            have hown3 := ownB_snoc hown2
            have hbw2 := (hbw.alloc hsz _).grown hg2 (by simp; omega) (fun j hj => (World.ownsRow.lt hown j hj).1)
            clear hown2 hg2
            go_wp2_with fail
            go_roundw
            case rel => exact ⟨m + 1 + 1, acc ++ [d], by omega, by omega, by go_num, HQ, by simp; omega, hown3, hbw2⟩
            case measure => simp [intOf] <;> omega
          have e34d : ((d.toNat : Int) != 34) = true := by rw [bne, show ((d.toNat : Int) == 34) = false from u8ne (k := 34) (by decide) (by simpa using g34)]; rfl
          by_cases g92 : (d == 92) = true
          · have ed : ((d.toNat : Int) != 92) = false := by rw [bne, show ((d.toNat : Int) == 92) = true from u8yes (k := 92) (by decide) g92]; rfl
            have ed2 : ((d.toNat : Int) == 110) = false := ieq_f (by have := of_decide_eq_true (u8yes (k := 92) (by decide) g92); omega)
            have hd0 : d ≠ 0 := by rintro rfl; exact absurd g92 (by decide)
            have HQ := Lib.hid (hQ.out.two him HD.out (drop_hd HDM.out hd0) HD2.out h92 (by rw [g92]; simp))
            clear h34 h34' hQ HD HD2 HDM HUD hp hp' hbadE h92 g34 g92 hd0 h92i
            go_wp2_with (at_builtin; refine wpList_append_own _ rfl _ _ 30 rfl w.heap.size 5 i0 (.int .u8 0) 1 1 Tryd.underlying30 hinf hz0 hz1 hz2 rfl (by decide) _ _ _ rfl (World.ownsRow.alloc hown _) ⟨wr.heap.size, 0, none⟩ 1 1 [.int .u8 (d.toNat : Int)] rfl rfl (new1_cells _ _ _) (one_oneCell rfl) (by unfold maxLen; omega) (by omega) (by simp; omega) ?_)
            intro v2 w2 hown2 hg2 _
            have hown3 := ownB_snoc hown2
            have hbw2 := (hbw.alloc hsz _).grown hg2 (by simp; omega) (fun j hj => (World.ownsRow.lt hown j hj).1)
            clear hown2 hg2
            go_wp2_with fail
            go_roundw
            case rel => exact ⟨m + 1 + 1, acc ++ [d], by omega, by omega, by go_num, HQ, by simp; omega, hown3, hbw2⟩
            case measure => simp [intOf] <;> omega
          have e92d : ((d.toNat : Int) != 92) = true := by rw [bne, show ((d.toNat : Int) == 92) = false from u8ne (k := 92) (by decide) (by simpa using g92)]; rfl
          by_cases g110 : (d == 110) = true
          · have ed : ((d.toNat : Int) != 110) = false := by rw [bne, show ((d.toNat : Int) == 110) = true from u8yes (k := 110) (by decide) g110]; rfl
            have ed2 : ((d.toNat : Int) == 110) = true := u8yes (k := 110) (by decide) g110
            have hd0 : d ≠ 0 := by rintro rfl; exact absurd g110 (by decide)
            have HQ := Lib.hid (hQ.out.n him HD.out (drop_hd HDM.out hd0) HD2.out h92 g110)
            clear h34 h34' hQ HD HD2 HDM HUD hp hp' hbadE h92 g34 g92 g110 hd0 h92i
            go_wp2_with (at_builtin; refine wpList_append_own _ rfl _ _ 30 rfl w.heap.size 5 i0 (.int .u8 0) 1 1 Tryd.underlying30 hinf hz0 hz1 hz2 rfl (by decide) _ _ _ rfl (World.ownsRow.alloc hown _) ⟨wr.heap.size, 0, none⟩ 1 1 [.int .u8 10] rfl rfl (new1_cells _ _ _) (one_oneCell rfl) (by unfold maxLen; omega) (by omega) (by simp; omega) ?_)
            intro v2 w2 hown2 hg2 _
            have hown3 := ownB_snoc (c := 10) hown2
            have hbw2 := (hbw.alloc hsz _).grown hg2 (by simp; omega) (fun j hj => (World.ownsRow.lt hown j hj).1)
            clear hown2 hg2
            go_wp2_with fail
            go_roundw
            case rel => exact ⟨m + 1 + 1, acc ++ [10], by omega, by omega, by go_num, HQ, by simp; omega, hown3, hbw2⟩
            case measure => simp [intOf] <;> omega
          · have e110d : ((d.toNat : Int) != 110) = true := by rw [bne, show ((d.toNat : Int) == 110) = false from u8ne (k := 110) (by decide) (by simpa using g110)]; rfl
            have HR := hbadE (qs_bad (u := u) h34' hp' (.inr ⟨by rw [HUD.out]; simpa using g34, by rw [HUD.out]; simpa using g92, by rw [HUD.out]; simpa using g110⟩))
            clear h34 h34' hQ HD HD2 HDM HUD hp hp' hbadE h92 g34 g92 g110 h92i
            go_wp2_with fail
            go_ret3
            obtain ⟨r1, r2⟩ := HR.out
            unfold TextRes
            rw [r1, if_neg (by simp), if_neg (by simp), r2]
            exact ⟨rfl, hbw⟩
        · have HR := hbadE (qs_bad (u := u) h34' hp' (.inr ⟨by rw [HUD.out, hd0]; rfl, by rw [HUD.out, hd0]; rfl, by rw [HUD.out, hd0]; rfl⟩))
          have hl1 : ((m : Int) + 1 == (s.size : Int)) = true := ieq_t (by omega)
          have hl2 : (m + 1 == s.size) = true := by simp; omega
          clear h34 h34' hQ HD HD2 HDM HUD hp hp' hbadE h92 h92i hm1 hd0
          go_wp2_with fail
          go_ret3
          obtain ⟨r1, r2⟩ := HR.out
          unfold TextRes
          rw [r1, if_neg (by simp), if_neg (by simp), r2]
          exact ⟨rfl, hbw⟩
    · obtain rfl : m = s.size := by omega
      have HR : Hid ((qs t).2.2 = false ∧ (i : Int) + 1 + ((qs t).2.1 : Int) = (s.size : Int)) := by
        have hq := hQ.out
        unfold QRel at hq
        rw [List.drop_of_length_le (by rw [size_list]; omega), qs] at hq
        show _ ∧ _; rw [hq]; simp; omega
      clear hQ
      go_wp2_with fail
      go_ret3
      obtain ⟨r1, r2⟩ := HR.out
      unfold TextRes
      rw [r1, if_neg (by simp), if_neg (by simp), r2]
      exact ⟨rfl, hbw⟩
end Go.Proofs.YtjcecnlnmodkgaaDoor

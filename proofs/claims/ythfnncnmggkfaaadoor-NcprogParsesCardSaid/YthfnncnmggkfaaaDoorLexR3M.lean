/- Chapter 07: text of the reference, by walking its text. -/
/- Chapter 07: IsMark and number of the reference, by walking their text. -/
import Derived.Test.YthfnncnmggkfaaaDoorLexR1
import Derived.Laws.IdiomStrings
import Derived.Test.YthfnncnmggkfaaaDoorLexNum
import Derived.Deep.QuietTactic
namespace Go.Proofs.YthfnncnmggkfaaaDoor
open Go Go.RowKit

def OwnB (w : World) (base : Nat) (v : Value) (l : List UInt8) : Prop := w.ownsRow base 5 1 v l.length (Lib.byteCells l)
theorem ownB_snoc {w : World} {base : Nat} {v : Value} {l : List UInt8} {c : UInt8} (h : w.ownsRow base 5 1 v (l.length + 1) (Lib.byteCells l ++ [.int .u8 (c.toNat : Int)])) : OwnB w base v (l ++ [c]) := by
  unfold OwnB
  rw [List.length_append, ← bc_one]
  exact h
theorem conv_own {w : World} {base : Nat} {v : Value} {l : List UInt8} (h : OwnB w base v l) : (convert 65 9 v).run Tryd.prog w = .ok (.string ⟨l.toArray⟩) w := by
  have h0 := h
  unfold OwnB at h
  rcases h.2 with ⟨rfl, hn⟩ | ⟨g, cap, cur, rfl, hb, hh, hnc, hcm, hcs, ht⟩
  · have : l = [] := List.eq_nil_of_length_eq_zero hn
    subst this
    rw [run_convert_bytes_string w 65 9 5 none 0 0 Tryd.underlying65 Tryd.underlying5 Tryd.underlying9]
    rfl
  · exact run_convert_bytes_back w _ _ _ _ cap l Tryd.underlying65 Tryd.underlying5 Tryd.underlying9 (fun j hj => World.ownsRow.cells h0 (g := g) rfl j _ (by rw [Lib.byteCells, List.getElem?_map, List.getElem?_eq_getElem hj]; rfl))
def TextRes (t : List UInt8) (i : Nat) (w : World) (e : Ending) (w' : World) : Prop :=
  e = .returned (.tuple #[.string (if (qs t).2.2 = true then ⟨(qs t).1.toArray⟩ else ⟨#[]⟩), .int .i64 ((i : Int) + 1 + ((qs t).2.1 : Int)), .int .i64 (if (qs t).2.2 = true then 0 else 5)]) ∧ Below w.heap.size w w'
theorem pl_int {c : UInt8} (h : lxPl c = true) : ¬ (c.toNat : Int) < 32 ∧ ¬ (126 : Int) < (c.toNat : Int) ∧ ((c.toNat : Int) == 34) = false ∧ ((c.toNat : Int) != 92) = true := by
  rw [lxPl_int] at h
  rw [bne]
  cases h3 : ((c.toNat : Int) == 34) <;> cases h4 : ((c.toNat : Int) == 92) <;> simp_all
set_option maxRecDepth 100000 in
set_option maxHeartbeats 8000000 in
theorem refText7_any (s : ByteArray) (i : Nat) (c0 : UInt8) (t : List UInt8) (w : World) (hz : s.size ≤ 140737488355000) (hd : s.data.toList.drop i = c0 :: t) :
    Calls Tryd.prog 88 #[.string s, .int .i64 (i : Int)] w (TextRes t i w) := by
  have hi : i < s.size := by
    have := congrArg List.length hd
    rw [List.length_drop, size_list, List.length_cons] at this; omega
  have ht : s.data.toList.drop (i + 1) = t := by
    have := congrArg (List.drop 1) hd
    rw [List.drop_drop] at this; exact this
  obtain ⟨i0, hinf, hz0, hz1, hz2⟩ := info_parts byte_info
  have HQ0 : Hid (QRel s t i (i + 1) []) := by
    show QRel _ _ _ _ _
    unfold QRel
    rw [ht]; simp
  clear hd ht
  go_enter Tryd.func88, Tryd.ntmps88
  go_wp2
  go_loopw [7, 8] (fun o e wr => ∃ (m : Nat) (acc : List UInt8), m ≤ s.size ∧ i + 1 ≤ m ∧ e = .int .i64 m ∧ Hid (QRel s t i m acc) ∧ acc.length ≤ m ∧ OwnB wr w.heap.size o acc ∧ Below w.heap.size w wr) (fun _ e _ => s.size - (intOf e).toNat)
  case atStart => exact ⟨i + 1, [], by omega, Nat.le_refl _, by go_num, HQ0, by simp, World.ownsRow_nil _ _ _ _, Below.refl _ _⟩
  case round =>
    obtain ⟨m, acc, hm, him, rfl, hQ, hal, hown, hbw⟩ := hrel
    have hsz := hbw.size
    have hbl := Lib.byteCells_length acc
    by_cases hlt : m < s.size
    · obtain ⟨c, u, hd, hc, hd2⟩ := drop_at (D := s.data.toList) (k := m) (by rw [size_list]; exact hlt)
      have hsm := byte_at hlt hc
      have hcb := UInt8.toNat_lt c
      obtain ⟨d, hdm⟩ : ∃ d, hdB s.data.toList (m + 1) = d := ⟨_, rfl⟩
      have hud : u.headD 0 = d := by rw [← hdm]; exact (hdB_of hd2).symm
      have hnx : (∃ h : m + 1 < s.size, s[m + 1] = d) ∨ (m + 1 = s.size ∧ d = 0) := by
        rcases Nat.lt_or_ge (m + 1) s.size with h | h
        · obtain ⟨d', _, _, hc', _⟩ := drop_at (D := s.data.toList) (k := m + 1) (by rw [size_list]; exact h)
          exact .inl ⟨h, by rw [byte_at h hc', ← hdm, hdB_lt hc']⟩
        · exact .inr ⟨by omega, by rw [← hdm, hdB_end (by rw [size_list]; exact h)]⟩
      have HD := Lib.hid hd
      have HD2 := Lib.hid hd2
      have HDM := Lib.hid hdm
      have HUD := Lib.hid hud
      clear hd hd2 hdm hud hc
      by_cases h34 : (c == 34) = true
      · have e34 : ((c.toNat : Int) == 34) = true := u8yes (k := 34) (by decide) h34
        have HR : Hid ((qs t).2.2 = true ∧ (qs t).1 = acc ∧ (i : Int) + 1 + ((qs t).2.1 : Int) = (m : Int) + 1) := by
          have hq := hQ.out
          unfold QRel at hq
          have ec : c = 34 := by simpa using h34
          rw [HD.out, ec, qs_quote] at hq
          show _ ∧ _; rw [hq]; simp; omega
        have hcv := conv_own hown
        clear h34 hQ hnx
        go_wp2_with fail
        go_ret3
        obtain ⟨r1, r2, r3⟩ := HR.out
        unfold TextRes
        rw [r1, if_pos rfl, if_pos rfl, r2, r3]
        exact ⟨rfl, hbw⟩
      have h34' : (c == 34) = false := by simpa using h34
      have e34 : ((c.toNat : Int) == 34) = false := u8ne (k := 34) (by decide) h34'
      by_cases hp : lxPl c = true
      · have HQ := Lib.hid (hQ.out.pl him HD.out HD2.out hp)
        obtain ⟨p1, p2, -, p4⟩ := pl_int hp
        clear h34 h34' hQ HD HD2 HDM HUD hp hnx
        go_wp2_with (at_builtin; refine wpList_append_own _ rfl _ _ 65 rfl w.heap.size 5 i0 (.int .u8 0) 1 1 Tryd.underlying65 hinf hz0 hz1 hz2 rfl (by decide) _ _ _ rfl (World.ownsRow.alloc hown _) ⟨wr.heap.size, 0, none⟩ 1 1 [.int .u8 (c.toNat : Int)] rfl rfl (new1_cells _ _ _) (one_oneCell rfl) (by unfold maxLen; omega) (by omega) (by simp; omega) ?_)
        intro v2 w2 hown2 hg2 _
        have hown3 := ownB_snoc hown2
        have hbw2 := (hbw.alloc hsz _).grown hg2 (by simp; omega) (fun j hj => (World.ownsRow.lt hown j hj).1)
        clear hown2 hg2
        go_wp2_with fail
        go_roundw
        case rel => exact ⟨m + 1, acc ++ [c], by omega, by omega, by go_num, HQ, by simp; omega, hown3, hbw2⟩
        case measure => simp [intOf] <;> omega
      have hp' : lxPl c = false := by simpa using hp
      have hpc : (c.toNat : Int) < 32 ∨ (¬ (c.toNat : Int) < 32 ∧ (126 : Int) < (c.toNat : Int)) ∨ (¬ (c.toNat : Int) < 32 ∧ ¬ (126 : Int) < (c.toNat : Int) ∧ ((c.toNat : Int) == 92) = true) := by
        rw [lxPl_int, e34] at hp'
        cases h4 : ((c.toNat : Int) == 92)
        · rw [h4] at hp'
          simp at hp'
          omega
        · have := of_decide_eq_true h4
          exact .inr (.inr ⟨by omega, by omega, rfl⟩)
      have hbadE : qs (c :: u) = ([], 0, false) → Hid ((qs t).2.2 = false ∧ (i : Int) + 1 + ((qs t).2.1 : Int) = (m : Int)) := fun hbad => by
        have hq := hQ.out
        unfold QRel at hq
        rw [HD.out, hbad] at hq
        show _ ∧ _; rw [hq]; simp; omega
      rcases hpc with p1 | ⟨p1, p2⟩ | ⟨p1, p2, h92i⟩
      · have h92 : (c == 92) = false := by rw [beq_eq_false_iff_ne]; rintro rfl; exact absurd p1 (by decide)
        have HR := hbadE (qs_bad (u := u) h34' hp' (.inl h92))
        clear h34 h34' hQ HD HD2 HDM HUD hp hp' hnx hbadE h92
        go_wp2_with fail
        go_ret3
        obtain ⟨r1, r2⟩ := HR.out
        unfold TextRes
        rw [r1, if_neg (by simp), if_neg (by simp), r2]
        exact ⟨rfl, hbw⟩
      · have h92 : (c == 92) = false := by rw [beq_eq_false_iff_ne]; rintro rfl; exact absurd p2 (by decide)
        have HR := hbadE (qs_bad (u := u) h34' hp' (.inl h92))
        clear h34 h34' hQ HD HD2 HDM HUD hp hp' hnx hbadE h92
        go_wp2_with fail
        go_ret3
        obtain ⟨r1, r2⟩ := HR.out
        unfold TextRes
        rw [r1, if_neg (by simp), if_neg (by simp), r2]
        exact ⟨rfl, hbw⟩
      · have h92 : (c == 92) = true := by
          have := of_decide_eq_true h92i
          have e : c = 92 := UInt8.toNat_inj.1 (by have h92n : (92 : UInt8).toNat = 92 := rfl; omega)
          rw [e]; rfl
        have e92 : ((c.toNat : Int) != 92) = false := by rw [bne, h92i]; rfl
        rcases hnx with ⟨hm1, hsn⟩ | ⟨hm1, hd0⟩
        · have hdb := UInt8.toNat_lt d
          have hl1 : ((m : Int) + 1 == (s.size : Int)) = false := ieq_f (by omega)
          have hl2 : (m + 1 == s.size) = false := by simp; omega
          by_cases g34 : (d == 34) = true
          · have ed : ((d.toNat : Int) != 34) = false := by rw [bne, show ((d.toNat : Int) == 34) = true from u8yes (k := 34) (by decide) g34]; rfl
            have ed2 : ((d.toNat : Int) == 110) = false := ieq_f (by have := of_decide_eq_true (u8yes (k := 34) (by decide) g34); omega)
            have hd0 : d ≠ 0 := by rintro rfl; exact absurd g34 (by decide)
            have HQ := Lib.hid (hQ.out.two him HD.out (drop_hd HDM.out hd0) HD2.out h92 (by rw [g34]; rfl))
            clear h34 h34' hQ HD HD2 HDM HUD hp hp' hbadE h92 g34 hd0 h92i
            go_wp2_with (at_builtin; refine wpList_append_own _ rfl _ _ 65 rfl w.heap.size 5 i0 (.int .u8 0) 1 1 Tryd.underlying65 hinf hz0 hz1 hz2 rfl (by decide) _ _ _ rfl (World.ownsRow.alloc hown _) ⟨wr.heap.size, 0, none⟩ 1 1 [.int .u8 (d.toNat : Int)] rfl rfl (new1_cells _ _ _) (one_oneCell rfl) (by unfold maxLen; omega) (by omega) (by simp; omega) ?_)
            intro v2 w2 hown2 hg2 _
            have hown3 := ownB_snoc hown2
            have hbw2 := (hbw.alloc hsz _).grown hg2 (by simp; omega) (fun j hj => (World.ownsRow.lt hown j hj).1)
            clear hown2 hg2
            go_wp2_with fail
            go_roundw
            case rel => exact ⟨m + 1 + 1, acc ++ [d], by omega, by omega, by go_num, HQ, by simp; omega, hown3, hbw2⟩
            case measure => simp [intOf] <;> omega
          have e34d : ((d.toNat : Int) != 34) = true := by rw [bne, show ((d.toNat : Int) == 34) = false from u8ne (k := 34) (by decide) (by simpa using g34)]; rfl
          by_cases g92 : (d == 92) = true
          · have ed : ((d.toNat : Int) != 92) = false := by rw [bne, show ((d.toNat : Int) == 92) = true from u8yes (k := 92) (by decide) g92]; rfl
            have ed2 : ((d.toNat : Int) == 110) = false := ieq_f (by have := of_decide_eq_true (u8yes (k := 92) (by decide) g92); omega)
            have hd0 : d ≠ 0 := by rintro rfl; exact absurd g92 (by decide)
            have HQ := Lib.hid (hQ.out.two him HD.out (drop_hd HDM.out hd0) HD2.out h92 (by rw [g92]; simp))
            clear h34 h34' hQ HD HD2 HDM HUD hp hp' hbadE h92 g34 g92 hd0 h92i
            go_wp2_with (at_builtin; refine wpList_append_own _ rfl _ _ 65 rfl w.heap.size 5 i0 (.int .u8 0) 1 1 Tryd.underlying65 hinf hz0 hz1 hz2 rfl (by decide) _ _ _ rfl (World.ownsRow.alloc hown _) ⟨wr.heap.size, 0, none⟩ 1 1 [.int .u8 (d.toNat : Int)] rfl rfl (new1_cells _ _ _) (one_oneCell rfl) (by unfold maxLen; omega) (by omega) (by simp; omega) ?_)
            intro v2 w2 hown2 hg2 _
            have hown3 := ownB_snoc hown2
            have hbw2 := (hbw.alloc hsz _).grown hg2 (by simp; omega) (fun j hj => (World.ownsRow.lt hown j hj).1)
            clear hown2 hg2
            go_wp2_with fail
            go_roundw
            case rel => exact ⟨m + 1 + 1, acc ++ [d], by omega, by omega, by go_num, HQ, by simp; omega, hown3, hbw2⟩
            case measure => simp [intOf] <;> omega
          have e92d : ((d.toNat : Int) != 92) = true := by rw [bne, show ((d.toNat : Int) == 92) = false from u8ne (k := 92) (by decide) (by simpa using g92)]; rfl
          by_cases g110 : (d == 110) = true
          · have ed : ((d.toNat : Int) != 110) = false := by rw [bne, show ((d.toNat : Int) == 110) = true from u8yes (k := 110) (by decide) g110]; rfl
            have ed2 : ((d.toNat : Int) == 110) = true := u8yes (k := 110) (by decide) g110
            have hd0 : d ≠ 0 := by rintro rfl; exact absurd g110 (by decide)
            have HQ := Lib.hid (hQ.out.n him HD.out (drop_hd HDM.out hd0) HD2.out h92 g110)
            clear h34 h34' hQ HD HD2 HDM HUD hp hp' hbadE h92 g34 g92 g110 hd0 h92i
            go_wp2_with (at_builtin; refine wpList_append_own _ rfl _ _ 65 rfl w.heap.size 5 i0 (.int .u8 0) 1 1 Tryd.underlying65 hinf hz0 hz1 hz2 rfl (by decide) _ _ _ rfl (World.ownsRow.alloc hown _) ⟨wr.heap.size, 0, none⟩ 1 1 [.int .u8 10] rfl rfl (new1_cells _ _ _) (one_oneCell rfl) (by unfold maxLen; omega) (by omega) (by simp; omega) ?_)
            intro v2 w2 hown2 hg2 _
            have hown3 := ownB_snoc (c := 10) hown2
            have hbw2 := (hbw.alloc hsz _).grown hg2 (by simp; omega) (fun j hj => (World.ownsRow.lt hown j hj).1)
            clear hown2 hg2
            go_wp2_with fail
            go_roundw
            case rel => exact ⟨m + 1 + 1, acc ++ [10], by omega, by omega, by go_num, HQ, by simp; omega, hown3, hbw2⟩
            case measure => simp [intOf] <;> omega
          · have e110d : ((d.toNat : Int) != 110) = true := by rw [bne, show ((d.toNat : Int) == 110) = false from u8ne (k := 110) (by decide) (by simpa using g110)]; rfl
            have HR := hbadE (qs_bad (u := u) h34' hp' (.inr ⟨by rw [HUD.out]; simpa using g34, by rw [HUD.out]; simpa using g92, by rw [HUD.out]; simpa using g110⟩))
            clear h34 h34' hQ HD HD2 HDM HUD hp hp' hbadE h92 g34 g92 g110 h92i
            go_wp2_with fail
            go_ret3
            obtain ⟨r1, r2⟩ := HR.out
            unfold TextRes
            rw [r1, if_neg (by simp), if_neg (by simp), r2]
            exact ⟨rfl, hbw⟩
        · have HR := hbadE (qs_bad (u := u) h34' hp' (.inr ⟨by rw [HUD.out, hd0]; rfl, by rw [HUD.out, hd0]; rfl, by rw [HUD.out, hd0]; rfl⟩))
          have hl1 : ((m : Int) + 1 == (s.size : Int)) = true := ieq_t (by omega)
          have hl2 : (m + 1 == s.size) = true := by simp; omega
          clear h34 h34' hQ HD HD2 HDM HUD hp hp' hbadE h92 h92i hm1 hd0
          go_wp2_with fail
          go_ret3
          obtain ⟨r1, r2⟩ := HR.out
          unfold TextRes
          rw [r1, if_neg (by simp), if_neg (by simp), r2]
          exact ⟨rfl, hbw⟩
    · obtain rfl : m = s.size := by omega
      have HR : Hid ((qs t).2.2 = false ∧ (i : Int) + 1 + ((qs t).2.1 : Int) = (s.size : Int)) := by
        have hq := hQ.out
        unfold QRel at hq
        rw [List.drop_of_length_le (by rw [size_list]; omega), qs] at hq
        show _ ∧ _; rw [hq]; simp; omega
      clear hQ
      go_wp2_with fail
      go_ret3
      obtain ⟨r1, r2⟩ := HR.out
      unfold TextRes
      rw [r1, if_neg (by simp), if_neg (by simp), r2]
      exact ⟨rfl, hbw⟩
end Go.Proofs.YthfnncnmggkfaaaDoor

namespace Go.Proofs.YthfnncnmggkfaaaDoor
open Go Go.RowKit

set_option maxRecDepth 100000 in
set_option maxHeartbeats 2000000 in
theorem refIsMark_any (s : ByteArray) (w : World) (hs : s.size ≤ 4611686018427387904) : Calls Tryd.prog 89 #[.string s] w fun e w' => e = .returned (.bool (isMkF s.data.toList)) ∧ Qt w w' := by
  by_cases h1 : s.data.toList = [45, 62]
  · have e1 : (s.toList == [45, 62]) = true := by rw [ByteArray.toList_eq, h1]; rfl
    have HR : Hid (isMkF s.data.toList = true) := by show _ = _; unfold isMkF; rw [h1]; rfl
    clear h1
    go_enter Tryd.func89, Tryd.ntmps89
    go_wp2_with fail
    go_ret
    exact ⟨ret_bool HR.out.symm, Qt.refl _⟩
  have e1 : (s.toList == [45, 62]) = false := by rw [ByteArray.toList_eq]; exact beq_eq_false_iff_ne.2 h1
  by_cases h2 : s.size = 1
  · obtain ⟨c, hc⟩ : ∃ c, s = ⟨#[c]⟩ := by
      obtain ⟨⟨l⟩⟩ := s
      match l, h2 with
      | [c], _ => exact ⟨c, rfl⟩
    have HR : Hid (isMkF s.data.toList = lxMk c) := by subst hc; show _ = _; unfold isMkF; rw [beq_eq_false_iff_ne.2 h1]; rfl
    have h0 : 0 < s.size := by omega
    have hs0 : s[0] = c := byte_at h0 (by rw [hc]; rfl)
    have e2 : ((s.size : Int) != 1) = false := ine_f (by omega)
    have e3 : (s.size != 1) = false := by simp [h2]
    rw [HR.out]
    obtain ⟨B, hB⟩ : ∃ B, B = lxMk c := ⟨_, rfl⟩
    rw [← hB]
    have HB := Lib.hid hB
    clear hc h1 h2 hB
    go_enter Tryd.func89, Tryd.ntmps89
    go_wp2_with fail
    obtain ⟨M, hMM⟩ : ∃ M : ByteArray, M = ⟨#[123, 125, 40, 41, 91, 93, 44, 59, 58, 61, 43, 45, 42, 47, 46]⟩ := ⟨_, rfl⟩
    rw [← hMM]
    have hM : M.size = 15 := by rw [hMM]; rfl
    have hL : Hid (M.data.toList = lxMks) := by show _ = _; rw [hMM]; rfl
    clear hMM
    have HM := Lib.hid hM
    clear hM
    go_loopw [4] (fun k wr => ∃ (m : Nat), k = .int .i64 m ∧ m ≤ 15 ∧ Hid ((lxMks.take m).contains c = false) ∧ Qt w wr) (fun k _ => 15 - (intOf k).toNat)
    case atStart => exact ⟨0, rfl, by omega, by rfl, Qt.refl _⟩
    case round =>
      obtain ⟨m, rfl, hm, hN, hq⟩ := hrel
      have hM := HM.out
      by_cases hlt : m < 15
      · have hltM : m < M.size := by omega
        obtain ⟨x, hx⟩ : ∃ x, lxMks[m]? = some x := ⟨_, List.getElem?_eq_getElem hlt⟩
        have hMx : M[m] = x := byte_at hltM (by rw [hL.out]; exact hx)
        have ht : lxMks.take (m + 1) = lxMks.take m ++ [x] := take_one hx
        have hcon : ∀ b, (c == x) = b → (lxMks.take (m + 1)).contains c = b := fun b hb => by
          have h3 := hN.out
          rw [ht, List.contains_eq_mem] at *
          simp at h3 ⊢
          rw [← hb]
          by_cases h4 : c = x
          · simp [h4]
          · simp [h3, h4]
        by_cases hcx : c = x
        · have hin : lxMk c = true := by
            unfold lxMk
            rw [List.contains_eq_mem, decide_eq_true_eq, hcx]
            exact List.mem_of_getElem? hx
          have HT : Hid (B = true) := by show _ = _; rw [HB.out, hin]
          have q1 : (x.toNat == c.toNat) = true := by rw [hcx]; simp
          have q2 : ((x.toNat : Int) == (c.toNat : Int)) = true := by rw [hcx]; simp
          clear hM hx ht hcon hin hcx hlt hN
          go_wp2_with fail
          go_quiet (fail)
          go_wp2_with fail
          go_ret
          exact ⟨ret_bool HT.out.symm, hq.drewN _⟩
        · have HN := Lib.hid (hcon false (by simpa using hcx))
          have hne : x.toNat ≠ c.toNat := fun e => hcx (UInt8.toNat_inj.1 e.symm)
          have q1 : (x.toNat == c.toNat) = false := by simpa using hne
          have q2 : ((x.toNat : Int) == (c.toNat : Int)) = false := ieq_f (by omega)
          clear hM hx ht hcon hcx hN hne
          go_wp2_with fail
          go_quiet (fail)
          go_wp2_with fail
          go_roundw
          case rel => exact ⟨m + 1, by go_num, by omega, HN, hq.drewN _⟩
          case measure => simp [intOf] <;> omega
      · obtain rfl : m = 15 := by omega
        have HT : Hid (B = false) := by show _ = _; rw [HB.out]; have := hN.out; rw [List.take_of_length_le (by decide)] at this; exact this
        have hltM : ¬ (15 : Int) < (M.size : Int) := by omega
        have hltM2 : ¬ 15 < M.size := by omega
        clear hM hN
        go_wp2_with fail
        go_ret
        exact ⟨ret_bool HT.out.symm, hq⟩
  · have e2 : ((s.size : Int) != 1) = true := ine_t (by omega)
    have e3 : (s.size != 1) = true := by simpa using h2
    have HR : Hid (isMkF s.data.toList = false) := by
      show _ = _; unfold isMkF; rw [beq_eq_false_iff_ne.2 h1]
      have hl := size_list s
      match hm : s.data.toList with
      | [] => rfl
      | [c] => rw [hm] at hl; simp at hl; omega
      | a :: b :: r => rfl
    clear h1 h2
    go_enter Tryd.func89, Tryd.ntmps89
    go_wp2_with fail
    go_ret
    exact ⟨ret_bool HR.out.symm, Qt.refl _⟩
def NumRes (d : List UInt8) (i : Nat) (w : World) (e : Ending) (w' : World) : Prop :=
  e = .returned (.tuple #[.agg #[.int .i64 2, .string ⟨(d.take (dgLen d)).toArray⟩, .int .i64 (parseL (d.take (dgLen d))).1, .int .i64 (i : Int)], .int .i64 (parseL (d.take (dgLen d))).2]) ∧ Below w.heap.size w w'
set_option maxRecDepth 100000 in
set_option maxHeartbeats 2000000 in
theorem refNumber7_any (s : ByteArray) (i : Nat) (w : World) (hz : s.size ≤ 1000000000) (hi : i ≤ s.size) :
    Calls Tryd.prog 87 #[.string s, .int .i64 (i : Int)] w (NumRes (s.data.toList.drop i) i w) := by
  go_enter Tryd.func87, Tryd.ntmps87
  go_wp2
  go_loop [6] (fun k => ∃ m : Nat, m ≤ s.size ∧ i ≤ m ∧ k = .int .i64 m ∧ Hid (m - i + dgLen (s.data.toList.drop m) = dgLen (s.data.toList.drop i))) (fun k => s.size - (intOf k).toNat)
  case atStart => exact ⟨i, hi, Nat.le_refl _, rfl, by show _ = _; omega⟩
  case round =>
    obtain ⟨m, hm, him, rfl, hN⟩ := hrel
    have hstep := dg_at s.data.toList m
    have hexit : dgLen (s.data.toList.drop m) = 0 → Hid ((s.data.toList.drop i).take (dgLen (s.data.toList.drop i)) = (s.extract i m).data.toList) := fun h => by
      have := hN.out; show _ = _; rw [extract_list]; congr 1; omega
    by_cases hb : m < s.size ∧ isDig (hdB s.data.toList m) = true
    · obtain ⟨hlt, hb⟩ := hb
      obtain ⟨c, u, hd, hc, hd2⟩ := drop_at (D := s.data.toList) (k := m) (by rw [size_list]; exact hlt)
      have hsm := byte_at hlt hc
      rw [hdB_lt hc] at hb hstep
      rw [if_pos hb] at hstep
      have HS : Hid (m + 1 - i + dgLen (s.data.toList.drop (m + 1)) = dgLen (s.data.toList.drop i)) := by have := hN.out; show _ = _; omega
      clear hstep hN hd hc hd2 hexit
      go_wp2_with (go_at_call 86; refine (refDigit_any c _).mono ?_; rintro e w' ⟨rfl, rfl⟩)
      go_round
      case rel => exact ⟨m + 1, by omega, by omega, by go_num, HS⟩
      case measure => simp [intOf] <;> omega
    · have h0 : dgLen (s.data.toList.drop m) = 0 := by
        rcases Nat.lt_or_ge m s.size with h | h
        · rw [hstep, if_neg (fun h2 => hb ⟨h, h2⟩)]
        · rw [List.drop_of_length_le (by rw [size_list]; exact h)]; rfl
      have HX := hexit h0
      have CP := Lib.hid (fun w => refParse_any (s.extract i m) w (by rw [← size_list, extract_list, List.length_take, List.length_drop, size_list]; omega))
      rw [← HX.out] at CP
      have hxe : s.extract i m = ⟨((s.data.toList.drop i).take (dgLen (s.data.toList.drop i))).toArray⟩ := by rw [HX.out]
      have HXE := Lib.hid hxe
      have hcs : m = s.size ∨ ∃ (h : m < s.size) (c : UInt8), s[m] = c ∧ isDig c = false := by
        rcases Nat.lt_or_ge m s.size with h | h
        · obtain ⟨c, u, hd, hc, hd2⟩ := drop_at (D := s.data.toList) (k := m) (by rw [size_list]; exact h)
          exact .inr ⟨h, c, byte_at h hc, by
            cases hdg : isDig c with
            | false => rfl
            | true => exact absurd ⟨h, by rw [hdB_lt hc]; exact hdg⟩ hb⟩
        · exact .inl (by omega)
      obtain ⟨p, hp⟩ : ∃ p, parseL ((s.data.toList.drop i).take (dgLen (s.data.toList.drop i))) = p := ⟨_, rfl⟩
      rw [hp] at CP
      obtain ⟨p1, p2⟩ := p
      have HP := Lib.hid hp
      clear hp
      clear hstep hN hexit hb h0 hxe HX
      rcases hcs with rfl | ⟨hlt, c, hsc, hdg⟩
      · go_wp2_with fail
        refine (CP.out _).mono ?_
        rintro e w1 ⟨rfl, rfl⟩
        go_wp2_with fail
        exact bodyPost_ret (v := .tuple #[.agg #[.int .i64 2, .string (s.extract i s.size), .int .i64 p1, .int .i64 i], .int .i64 p2]) (by simp [results, Tryd.results87, go_sem]) rfl ⟨by rw [HP.out, ← HXE.out], (Below.refl _ _).alloc (Nat.le_refl _) _⟩
      · go_wp2_with (go_at_call 86; refine (refDigit_any c _).mono ?_; rintro e w' ⟨rfl, rfl⟩)
        refine (CP.out _).mono ?_
        rintro e w1 ⟨rfl, rfl⟩
        go_wp2_with fail
        exact bodyPost_ret (v := .tuple #[.agg #[.int .i64 2, .string (s.extract i m), .int .i64 p1, .int .i64 i], .int .i64 p2]) (by simp [results, Tryd.results87, go_sem]) rfl ⟨by rw [HP.out, ← HXE.out], (Below.refl _ _).alloc (Nat.le_refl _) _⟩
end Go.Proofs.YthfnncnmggkfaaaDoor

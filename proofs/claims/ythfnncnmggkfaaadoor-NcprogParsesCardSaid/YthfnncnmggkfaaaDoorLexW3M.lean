/- Chapter 27: the reference's Text, by walking its text. -/
/- Chapter 27: the reference's operation and coordinate, by walking its text. -/
/- Chapter 07: skip of the reference, by walking its text. -/
import Derived.Test.YthfnncnmggkfaaaDoorNcAv0M
import Derived.Test.YthfnncnmggkfaaaDoorNcW8M
import Derived.Test.YthfnncnmggkfaaaDoorNcNum
import Derived.Test.YthfnncnmggkfaaaDoorNcW2M
import Derived.Test.YthfnncnmggkfaaaDoorNcMkM
namespace Go.Proofs.YthfnncnmggkfaaaDoor
open Go Go.RowKit

theorem st_cells {w W : World} {b o0 o1 o2 : Nat} {v0 v1 v2 : Option Value} (hb : b < w.heap.size) (k0 : w.cell? ⟨b, o0, none⟩ = v0) (k1 : w.cell? ⟨b, o1, none⟩ = v1) (k2 : w.cell? ⟨b, o2, none⟩ = v2) (h : Below w.heap.size w W) :
    Below w.heap.size w W ∧ W.cell? ⟨b, o0, none⟩ = v0 ∧ W.cell? ⟨b, o1, none⟩ = v1 ∧ W.cell? ⟨b, o2, none⟩ = v2 := ⟨h, ((bcell h).1 b o0 hb).trans k0, ((bcell h).1 b o1 hb).trans k1, ((bcell h).1 b o2 hb).trans k2⟩
set_option maxRecDepth 100000 in
set_option maxHeartbeats 4000000 in
theorem refText27_any (vl : Value) (l : List Stp) (w : World) (hl : stR.slice.R w (Lt w) l [vl]) (hn : l.length ≤ 400000) : Calls Tryd.prog 17 #[vl] w (Ret (.string ⟨(textF l).toArray⟩) w) := by
  obtain ⟨A, c, rfl, hm, -⟩ := slice_inv hl
  go_enter Tryd.func17, Tryd.ntmps17
  go_wp2
  go_loopg [3, 4] l.length (fun g sv iv wr => ∃ (k : Nat) (S : ByteArray), k + g = l.length ∧ iv = .int .i64 k ∧ sv = .string S ∧ Hid (S.data.toList = textF (l.take k)) ∧ Below w.heap.size w wr)
  case atStart => exact ⟨0, ⟨#[]⟩, Nat.zero_add _, rfl, rfl, rfl, Below.refl _ _⟩
  case round =>
    obtain ⟨k, S, hk, rfl, rfl, hS, hb⟩ := hrel
    have hz := hb.size
    by_cases hlt : k < l.length
    · have hki : (k : Int) < (l.length : Int) := by omega
      obtain ⟨b, off, o, x, y, rfl, hx, hbD, c0, c1, c2, hox, hx1, hy1⟩ := steps_at (Rep.at_ hl hb) hlt
      have HTK := Lib.hid (textF_take hx.out)
      have hlen := textF_len (l := l.take k) (fun s hs => (stps_bd hl s (List.mem_of_mem_take hs)).2)
      have hlen2 : S.size ≤ 24000000 := by
        rw [← size_list, hS.out]
        rw [List.length_take] at hlen
        omega
      have hbw : b < w.heap.size := hbD
      have hbl : b < wr.heap.size := by omega
      have HTX := Lib.hid (fun W => refText_any x W hx1.1 hx1.2)
      have HTY := Lib.hid (fun W => refText_any y W hy1.1 hy1.2)
      have lx := Lib.itoa_length_le x hx1.1 hx1.2
      have ly := Lib.itoa_length_le y hy1.1 hy1.2
      obtain ⟨tx, htx⟩ : ∃ t, t = Lib.itoa x := ⟨_, rfl⟩
      obtain ⟨ty, hty⟩ : ∃ t, t = Lib.itoa y := ⟨_, rfl⟩
      have HTS : Hid (textS (o, (x, y)) = if o = 1 ∨ o = 3 then wordB o ++ [32, 88] ++ tx ++ [32, 89] ++ ty ++ [59, 10] else if o = 2 ∨ o = 4 then wordB o ++ [59, 10] else []) := by show _ = _; rw [htx, hty]; rfl
      rw [← htx] at HTX lx
      rw [← hty] at HTY ly
      have hS0 := st_cells hbl c0 c1 c2 ((Below.refl wr.heap.size wr).drew)
      clear hlen hlt htx hty
      have hs1 : ¬ 9223372036854775807 < 2 + tx.length := by omega
      have hs2 : ¬ 9223372036854775807 < 2 + tx.length + 2 := by omega
      have hs3 : ¬ 9223372036854775807 < 2 + tx.length + 2 + ty.length := by omega
      have hs4 : ¬ 9223372036854775807 < 2 + tx.length + 2 + ty.length + 2 := by omega
      go_upto_region 5 with fail
      go_region_held3 (fun W => Below wr.heap.size wr W ∧ W.cell? ⟨b, off + k * 3, none⟩ = some (.int .i64 o) ∧ W.cell? ⟨b, off + k * 3 + 1, none⟩ = some (.int .i64 x) ∧ W.cell? ⟨b, off + k * 3 + 2, none⟩ = some (.int .i64 y))
        (first
          | exact hS0
          | exact st_cells hbl c0 c1 c2 (by assumption))
        (first
          | (go_at_call 36
             go_split_ands
             (with_reducible refine (HTX.out _).mono ?_)
             rintro e W1 ⟨rfl, hq⟩
             have hSa : Below wr.heap.size wr W1 := bstep (B := wr.heap.size) (a := wr) (by assumption) (Below.size (by assumption)) hq
             clear hq)
          | (go_at_call 36
             go_split_ands
             (with_reducible refine (HTY.out _).mono ?_)
             rintro e W1 ⟨rfl, hq⟩
             have hSa : Below wr.heap.size wr W1 := bstep (B := wr.heap.size) (a := wr) (by assumption) (Below.size (by assumption)) hq
             clear hq))
      have HTL0 : Hid ((⟨#[32, 88]⟩ ++ ⟨tx.toArray⟩ ++ ⟨#[32, 89]⟩ ++ ⟨ty.toArray⟩ ++ ⟨#[59, 10]⟩ : ByteArray).data.toList = [32, 88] ++ tx ++ [32, 89] ++ ty ++ [59, 10]) := by show _ = _; simp
      generalize hT : (⟨#[32, 88]⟩ ++ ⟨tx.toArray⟩ ++ ⟨#[32, 89]⟩ ++ ⟨ty.toArray⟩ ++ ⟨#[59, 10]⟩ : ByteArray) = T at *
      have hTs : T.size ≤ 100 := by
        rw [← size_list, HTL0.out]
        simp only [List.length_append, List.length_cons, List.length_nil]
        omega
      have HTL := HTL0
      have hb3 := bstep hb hz hSa
      have d0 := ((bcell hSa).1 b (off + k * 3) hbl).trans c0
      have z1 : ¬ 9223372036854775807 < S.size + 2 := by omega
      have z2 : ¬ 9223372036854775807 < S.size + 2 + T.size := by omega
      have z3 : ¬ 9223372036854775807 < S.size + 4 := by omega
      clear hT hSa hs1 hs2 hs3 hs4 HTX HTY c0 c1 c2 hb
      by_cases h1 : o = 1
      · subst h1
        have HF : Hid ((S ++ ⟨#[71, 48]⟩ ++ T : ByteArray).data.toList = textF (l.take (k + 1))) := by
          show _ = _
          rw [HTK.out, HTS.out, ← hS.out, if_pos (by decide)]
          simp [HTL.out, wordB]
        go_wp2
        go_roundg (gk - 1)
        case measure => omega
        case rel => exact ⟨k + 1, _, by omega, by go_num, rfl, HF.out, hb3⟩
      by_cases h2 : o = 2
      · subst h2
        have HF : Hid ((S ++ ⟨#[77, 55, 59, 10]⟩ : ByteArray).data.toList = textF (l.take (k + 1))) := by
          show _ = _
          rw [HTK.out, HTS.out, ← hS.out, if_neg (by decide), if_pos (by decide)]
          simp [wordB]
        go_wp2
        go_roundg (gk - 1)
        case measure => omega
        case rel => exact ⟨k + 1, _, by omega, by go_num, rfl, HF.out, hb3⟩
      by_cases h3 : o = 3
      · subst h3
        have HF : Hid ((S ++ ⟨#[71, 49]⟩ ++ T : ByteArray).data.toList = textF (l.take (k + 1))) := by
          show _ = _
          rw [HTK.out, HTS.out, ← hS.out, if_pos (by decide)]
          simp [HTL.out, wordB]
        go_wp2
        go_roundg (gk - 1)
        case measure => omega
        case rel => exact ⟨k + 1, _, by omega, by go_num, rfl, HF.out, hb3⟩
      by_cases h4 : o = 4
      · subst h4
        have HF : Hid ((S ++ ⟨#[77, 56, 59, 10]⟩ : ByteArray).data.toList = textF (l.take (k + 1))) := by
          show _ = _
          rw [HTK.out, HTS.out, ← hS.out, if_neg (by decide), if_pos (by decide)]
          simp [wordB]
        go_wp2
        go_roundg (gk - 1)
        case measure => omega
        case rel => exact ⟨k + 1, _, by omega, by go_num, rfl, HF.out, hb3⟩
      have HF : Hid (S.data.toList = textF (l.take (k + 1))) := by
        show _ = _
        rw [HTK.out, HTS.out, ← hS.out, if_neg (by rintro (h | h); exact h1 h; exact h3 h), if_neg (by rintro (h | h); exact h2 h; exact h4 h), List.append_nil]
      have e1 : (o == 1) = false := ieq_f h1
      have e2 : (o == 2) = false := ieq_f h2
      have e3 : (o == 3) = false := ieq_f h3
      have e4 : (o == 4) = false := ieq_f h4
      clear h1 h2 h3 h4
      go_wp2
      go_roundg (gk - 1)
      case measure => omega
      case rel => exact ⟨k + 1, _, by omega, by go_num, rfl, HF.out, hb3⟩
    · have hki : ¬ (k : Int) < (l.length : Int) := by omega
      have hkl : k = l.length := by omega
      have HS : Hid (S = ⟨(textF l).toArray⟩) := by
        have h := hS.out
        rw [hkl, List.take_length] at h
        show S = _
        apply ByteArray.ext
        apply Array.toList_inj.1
        simpa using h
      clear hlt hkl
      go_wp2
      go_ret
      exact ⟨ret_str HS.out, hb⟩
end Go.Proofs.YthfnncnmggkfaaaDoor

namespace Go.Proofs.YthfnncnmggkfaaaDoor
open Go Go.RowKit

def lxArr (x1 : Int) (x2 : List UInt8) (x3 x4 : Int) : Array Value := #[.int .i64 x1, .string ⟨x2.toArray⟩, .int .i64 x3, .int .i64 x4]
def Two2 (a b : Int) (w : World) (e : Ending) (w' : World) : Prop := e = .returned (.tuple #[.int .i64 a, .int .i64 b]) ∧ Below w.heap.size w w'
set_option maxRecDepth 100000 in
set_option maxHeartbeats 1000000 in
theorem refOp_any (x1 : Int) (x2 : List UInt8) (x3 x4 : Int) (w : World) :
    Calls Tryd.prog 40 #[.agg #[.int .i64 x1, .string ⟨x2.toArray⟩, .int .i64 x3, .int .i64 x4]] w (Two2 (opF (x1, x2, x3, x4)) (if opF (x1, x2, x3, x4) = 0 then 5 else 0) w) := by
  have hw0 := (Below.refl w.heap.size w).alloc (Nat.le_refl _) (.cells #[.int .i64 x1, .string ⟨x2.toArray⟩, .int .i64 x3, .int .i64 x4] 90)
  have HW := Lib.hid hw0
  clear hw0
  by_cases hk : x1 = 1
  · have kb : (x1 == 1) = true := ieq_t hk
    have HO : Hid (opF (x1, x2, x3, x4) = opN x2) := by show _ = _; unfold opF; rw [if_pos hk]
    rw [HO.out]
    by_cases h1 : x2 = [71, 48]
    · have e1 : (x2 == [71, 48]) = true := by simp [h1]
      have HN : Hid (opN x2 = 1) := by show _ = _; unfold opN; rw [if_pos h1]
      rw [HN.out]
      clear h1 hk
      go_enter Tryd.func40, Tryd.ntmps40
      go_wp2
      go_ret2
      exact ⟨rfl, HW.out⟩
    have e1 : (x2 == [71, 48]) = false := beq_eq_false_iff_ne.2 h1
    by_cases h2 : x2 = [77, 55]
    · have e2 : (x2 == [77, 55]) = true := by simp [h2]
      have HN : Hid (opN x2 = 2) := by show _ = _; unfold opN; rw [if_neg h1, if_pos h2]
      rw [HN.out]
      clear h1 h2 hk
      go_enter Tryd.func40, Tryd.ntmps40
      go_wp2
      go_ret2
      exact ⟨rfl, HW.out⟩
    have e2 : (x2 == [77, 55]) = false := beq_eq_false_iff_ne.2 h2
    by_cases h3 : x2 = [71, 49]
    · have e3 : (x2 == [71, 49]) = true := by simp [h3]
      have HN : Hid (opN x2 = 3) := by show _ = _; unfold opN; rw [if_neg h1, if_neg h2, if_pos h3]
      rw [HN.out]
      clear h1 h2 h3 hk
      go_enter Tryd.func40, Tryd.ntmps40
      go_wp2
      go_ret2
      exact ⟨rfl, HW.out⟩
    have e3 : (x2 == [71, 49]) = false := beq_eq_false_iff_ne.2 h3
    by_cases h4 : x2 = [77, 56]
    · have e4 : (x2 == [77, 56]) = true := by simp [h4]
      have HN : Hid (opN x2 = 4) := by show _ = _; unfold opN; rw [if_neg h1, if_neg h2, if_neg h3, if_pos h4]
      rw [HN.out]
      clear h1 h2 h3 h4 hk
      go_enter Tryd.func40, Tryd.ntmps40
      go_wp2
      go_ret2
      exact ⟨rfl, HW.out⟩
    have e4 : (x2 == [77, 56]) = false := beq_eq_false_iff_ne.2 h4
    have HN : Hid (opN x2 = 0) := by show _ = _; unfold opN; rw [if_neg h1, if_neg h2, if_neg h3, if_neg h4]
    rw [HN.out]
    clear h1 h2 h3 h4 hk
    go_enter Tryd.func40, Tryd.ntmps40
    go_wp2
    go_ret2
    exact ⟨rfl, HW.out⟩
  · have kb : (x1 == 1) = false := ieq_f hk
    have HO : Hid (opF (x1, x2, x3, x4) = 0) := by show _ = _; unfold opF; rw [if_neg hk]
    rw [HO.out]
    clear hk
    go_enter Tryd.func40, Tryd.ntmps40
    go_wp2
    go_ret2
    exact ⟨rfl, HW.out⟩
theorem parseL_err (t : List UInt8) : (parseL t).2 = 0 ∨ (parseL t).1 = 0 ∧ ((parseL t).2 = 3 ∨ (parseL t).2 = 5 ∨ (parseL t).2 = 9) := by
  unfold parseL parseD
  split
  · simp
  · split
    · simp
    · split
      · simp
      · split
        · split
          · simp
          · simp
        · simp
set_option maxRecDepth 100000 in
set_option maxHeartbeats 1000000 in
theorem refCo_any (c : UInt8) (x1 : Int) (x2 : List UInt8) (x3 x4 : Int) (w : World) (hn : x1 = 1 → x2 ≠ [] ∧ x2.length ≤ 16) :
    Calls Tryd.prog 41 #[.agg #[.int .i64 x1, .string ⟨x2.toArray⟩, .int .i64 x3, .int .i64 x4], .string ⟨#[c]⟩] w (Two2 (coF c (x1, x2, x3, x4)).1 (coF c (x1, x2, x3, x4)).2 w) := by
  have hw0 := (Below.refl w.heap.size w).alloc (Nat.le_refl _) (.cells #[.int .i64 x1, .string ⟨x2.toArray⟩, .int .i64 x3, .int .i64 x4] 90)
  have HW := Lib.hid hw0
  clear hw0
  by_cases hk : x1 = 1
  · obtain ⟨h1, h2⟩ := hn hk
    obtain ⟨d, t, rfl⟩ : ∃ d t, x2 = d :: t := by
      cases x2 with
      | nil => exact absurd rfl h1
      | cons d t => exact ⟨d, t, rfl⟩
    have kb : (x1 != 1) = false := ine_f hk
    have hex1 : (⟨(d :: t).toArray⟩ : ByteArray).extract 0 1 = ⟨#[d]⟩ := by
      apply ByteArray.ext
      apply Array.toList_inj.1
      rw [Lib.extract_data]
      simp
    have hex2 : (⟨(d :: t).toArray⟩ : ByteArray).extract 1 (t.length + 1) = ⟨t.toArray⟩ := by
      apply ByteArray.ext
      apply Array.toList_inj.1
      rw [Lib.extract_data]
      simp
    have hsz : (⟨t.toArray⟩ : ByteArray).size ≤ 1000000000 := by
      show t.toArray.size ≤ _
      rw [List.size_toArray]
      simp at h2
      omega
    have HPS := Lib.hid (fun W => refParse_any ⟨t.toArray⟩ W hsz)
    have HPE := parseL_err t
    obtain ⟨⟨v, er⟩, hv⟩ : ∃ r, parseL t = r := ⟨_, rfl⟩
    rw [show (⟨t.toArray⟩ : ByteArray).data.toList = t from rfl, hv] at HPS
    rw [hv] at HPE
    have HPE : er = 0 ∨ v = 0 ∧ (er = 3 ∨ er = 5 ∨ er = 9) := HPE
    by_cases hd : d = c
    · subst hd
      have HC : Hid (coF d (x1, d :: t, x3, x4) = if er = 9 then (0, 9) else if er ≠ 0 then (0, 5) else (v, 0)) := by
        show _ = _
        unfold coF
        rw [if_pos ⟨hk, rfl⟩, show (d :: t).tail = t from rfl, hv]
      clear hn hk h1 h2 hv hsz
      go_enter Tryd.func41, Tryd.ntmps41
      go_wp2_with fail
      refine (HPS.out _).mono ?_
      rintro e w2 ⟨rfl, rfl⟩
      by_cases h3 : er = 3
      · have b3 : (er == 3) = true := ieq_t h3
        have HC2 : Hid (coF d (x1, d :: t, x3, x4) = (0, 5)) := by show _ = _; rw [HC.out, if_neg (by omega), if_pos (by omega)]
        have hv0 : v = 0 := by omega
        subst hv0
        clear h3 HPE
        go_wp2
        go_ret2
        rw [HC2.out]
        exact ⟨rfl, HW.out⟩
      · have b3 : (er == 3) = false := ieq_f h3
        have HC2 : Hid (coF d (x1, d :: t, x3, x4) = (v, er)) := by
          show _ = _
          rw [HC.out]
          rcases HPE with h | ⟨h0, h | h | h⟩
          · rw [h, if_neg (by decide), if_neg (by decide)]
          · exact absurd h h3
          · rw [h, h0, if_neg (by decide), if_pos (by decide)]
          · rw [h, h0, if_pos rfl]
        clear h3 HPE
        go_wp2
        go_ret2
        rw [HC2.out]
        exact ⟨rfl, HW.out⟩
    · have hdb : (d == c) = false := by simpa using hd
      have HC : Hid (coF c (x1, d :: t, x3, x4) = (0, 5)) := by
        show _ = _
        unfold coF
        rw [if_neg (by rintro ⟨_, h⟩; injection h with h; exact hd h)]
      rw [HC.out]
      clear hn hk h1 h2 hv hsz HPE hd
      go_enter Tryd.func41, Tryd.ntmps41
      go_wp2
      go_ret2
      exact ⟨rfl, HW.out⟩
  · have kb : (x1 != 1) = true := ine_t hk
    have HC : Hid (coF c (x1, x2, x3, x4) = (0, 5)) := by show _ = _; unfold coF; rw [if_neg (fun h => hk h.1)]
    rw [HC.out]
    clear hk
    go_enter Tryd.func41, Tryd.ntmps41
    go_wp2
    go_ret2
    exact ⟨rfl, HW.out⟩
end Go.Proofs.YthfnncnmggkfaaaDoor

namespace Go.Proofs.YthfnncnmggkfaaaDoor
open Go Go.RowKit

theorem bl_cases {c : UInt8} (h : lxBl c = true) : ((c.toNat : Int) == 32) = true ∨ (((c.toNat : Int) == 32) = false ∧ ((c.toNat : Int) == 9) = true) ∨ (((c.toNat : Int) == 32) = false ∧ ((c.toNat : Int) == 9) = false ∧ ((c.toNat : Int) == 10) = true) ∨
    (((c.toNat : Int) == 32) = false ∧ ((c.toNat : Int) == 9) = false ∧ ((c.toNat : Int) == 10) = false ∧ ((c.toNat : Int) == 13) = true) := by
  rw [lxBl_int] at h
  cases h1 : ((c.toNat : Int) == 32) <;> cases h2 : ((c.toNat : Int) == 9) <;> cases h3 : ((c.toNat : Int) == 10) <;> cases h4 : ((c.toNat : Int) == 13) <;> simp_all
theorem bl_none {c : UInt8} (h : lxBl c = false) : ((c.toNat : Int) == 32) = false ∧ ((c.toNat : Int) == 9) = false ∧ ((c.toNat : Int) == 10) = false ∧ ((c.toNat : Int) == 13) = false := by
  rw [lxBl_int] at h
  cases h1 : ((c.toNat : Int) == 32) <;> cases h2 : ((c.toNat : Int) == 9) <;> cases h3 : ((c.toNat : Int) == 10) <;> cases h4 : ((c.toNat : Int) == 13) <;> simp_all
theorem bl_not35 {c : UInt8} (h : lxBl c = true) : (c == 35) = false := by
  rw [beq_eq_false_iff_ne]; rintro rfl; exact absurd h (by decide)
set_option maxHeartbeats 2000000 in
theorem refSkip_any (s : ByteArray) (i0 : Nat) (w : World) (hs : s.size ≤ 4611686018427387904) (hi : i0 ≤ s.size) : Calls Tryd.prog 60 #[.string s, .int .i64 (i0 : Int)] w (SkipRes s i0 w) := by
  go_enter Tryd.func60, Tryd.ntmps60
  go_wp2
  go_loop [1] (fun i => ∃ k : Nat, k ≤ s.size ∧ i = .int .i64 k ∧ Hid (lxSkip false (s.data.toList.drop k) = lxSkip false (s.data.toList.drop i0))) (fun i => s.size - (intOf i).toNat)
  case atStart => exact ⟨i0, hi, rfl, rfl⟩
  case round =>
    obtain ⟨k, hk, rfl, hR⟩ := hrel
    by_cases hlt : k < s.size
    · obtain ⟨c, t, hd, hc, hd2⟩ := drop_at (D := s.data.toList) (k := k) (by rw [size_list]; exact hlt)
      have HC := Lib.hid hc
      rw [hd] at hR
      have hsk := byte_at hlt hc
      clear hc
      by_cases hb : lxBl c = true
      · have HR : Hid (lxSkip false (s.data.toList.drop (k + 1)) = lxSkip false (s.data.toList.drop i0)) := by show _ = _; rw [hd2, ← hR.out, skip_bl hb]
        have e35 : ((c.toNat : Int) == 35) = false := u8ne (k := 35) (by decide) (bl_not35 hb)
        have hbc := bl_cases hb
        clear hd hd2 hR hb
        rcases hbc with h1 | ⟨h1, h2⟩ | ⟨h1, h2, h3⟩ | ⟨h1, h2, h3, h4⟩
        all_goals
          go_wp2
          go_round
          case rel => exact ⟨k + 1, by omega, by go_num, HR⟩
          case measure => simp [intOf] <;> omega
      have hb2 : lxBl c = false := by simpa using hb
      clear hb
      by_cases h35 : (c == 35) = true
      · have e35 : ((c.toNat : Int) == 35) = true := u8yes (k := 35) (by decide) h35
        have HR : Hid (lxSkip true (s.data.toList.drop k) = lxSkip false (s.data.toList.drop i0)) := by show _ = _; rw [hd, ← hR.out, skip_rem hb2 h35]
        have HK : Hid (s.data.toList[k]? = some 35) := by show _ = _; rw [HC.out]; congr 1; simpa using h35
        clear hd hd2 hR h35 hb2
        go_wp2
        go_loop [1] (fun i => ∃ m : Nat, m ≤ s.size ∧ k ≤ m ∧ i = .int .i64 m ∧ Hid (lxSkip true (s.data.toList.drop m) = lxSkip false (s.data.toList.drop i0))) (fun i => s.size - (intOf i).toNat)
        case atStart => exact ⟨k, hk, Nat.le_refl _, rfl, HR⟩
        case round =>
          obtain ⟨m, hm, hkm, rfl, hM⟩ := hrel
          clear HR HC e35 hsk
          by_cases hlt2 : m < s.size
          · obtain ⟨d, u, hd, hc, hd2⟩ := drop_at (D := s.data.toList) (k := m) (by rw [size_list]; exact hlt2)
            rw [hd] at hM
            have HC := Lib.hid hc
            have hsm := byte_at hlt2 hc
            clear hc
            by_cases h10 : (d == 10) = true
            · have e10 : ((d.toNat : Int) == 10) = true := u8yes (k := 10) (by decide) h10
              have HR : Hid (lxSkip false (s.data.toList.drop m) = lxSkip false (s.data.toList.drop i0)) := by show _ = _; rw [hd, ← hM.out, skip_out h10]
              have hne : k < m := by
                rcases Nat.lt_or_ge k m with h | h
                · exact h
                · have e : m = k := by omega
                  have := HC.out
                  rw [e, HK.out] at this
                  injection this with this
                  rw [← this] at h10
                  exact absurd h10 (by decide)
              clear hd hd2 hM h10 HK
              go_wp2
              go_round
              case rel => exact ⟨m, hm, rfl, HR⟩
              case measure => simp [intOf] <;> omega
            · have e10 : ((d.toNat : Int) == 10) = false := u8ne (k := 10) (by decide) (by simpa using h10)
              have HR : Hid (lxSkip true (s.data.toList.drop (m + 1)) = lxSkip false (s.data.toList.drop i0)) := by show _ = _; rw [hd2, ← hM.out, skip_in (by simpa using h10)]
              clear hd hd2 hM h10 HK
              go_wp2
              go_round
              case rel => exact ⟨m + 1, by omega, by omega, by go_num, HR⟩
              case measure => simp [intOf] <;> omega
          · obtain rfl : m = s.size := by omega
            have HR : Hid (lxSkip false (s.data.toList.drop s.size) = lxSkip false (s.data.toList.drop i0)) := by
              show _ = _; rw [← hM.out, List.drop_of_length_le (by rw [size_list]; omega)]; simp [lxSkip]
            clear hM HK
            go_wp2_with fail
            go_round
            case rel => exact ⟨s.size, hm, rfl, HR⟩
            case measure => simp [intOf] <;> omega
      · have e35 : ((c.toNat : Int) == 35) = false := u8ne (k := 35) (by decide) (by simpa using h35)
        have HR : Hid (s.data.toList.drop k = lxSkip false (s.data.toList.drop i0)) := by show _ = _; rw [← hR.out, skip_same hb2 (by simpa using h35), hd]
        obtain ⟨h1, h2, h3, h4⟩ := bl_none hb2
        clear hd hd2 hR h35
        go_wp2
        go_ret
        exact ⟨k, rfl, hk, HR.out, rfl⟩
    · obtain rfl : k = s.size := by omega
      have HR : Hid (s.data.toList.drop s.size = lxSkip false (s.data.toList.drop i0)) := by
        show _ = _; rw [← hR.out, List.drop_of_length_le (by rw [size_list]; omega)]; simp [lxSkip]
      clear hR
      go_wp2_with fail
      go_ret
      exact ⟨s.size, rfl, hk, HR.out, rfl⟩
end Go.Proofs.YthfnncnmggkfaaaDoor

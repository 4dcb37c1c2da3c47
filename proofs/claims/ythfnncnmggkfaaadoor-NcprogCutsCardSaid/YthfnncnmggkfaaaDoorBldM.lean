/- Chapter 07: number and IsMark of the program, by walking their text. -/
/- A strings.Builder that the call made: WriteByte, WriteString, WriteRune (at a byte's rune), by walking their text; what it holds is a list of bytes. -/
import Derived.Test.YthfnncnmggkfaaaDoorNcMkM
import Derived.Test.YthfnncnmggkfaaaDoorLexShelf
import Derived.Test.YthfnncnmggkfaaaDoorLexLawsB
import Derived.Test.YthfnncnmggkfaaaDoorChecked
import Derived.Test.YthfnncnmggkfaaaDoorTorPlainM
import Derived.Lib.FrozenHead2
import Derived.Lib.OthersKept
import Derived.Lib.Builder
import Derived.Laws.Externs
import Derived.BigQuiet
namespace Go.Proofs.YthfnncnmggkfaaaDoor
open Go Go.RowKit

theorem dg_at (D : List UInt8) (k : Nat) : dgLen (D.drop k) = if isDig (hdB D k) then dgLen (D.drop (k + 1)) + 1 else 0 := by
  rcases Nat.lt_or_ge k D.length with h | h
  · obtain ⟨c, t, hd, hc, hd2⟩ := drop_at h
    rw [hd, hd2, hdB_lt hc, dgLen]
  · rw [List.drop_of_length_le h, hdB_end h, show isDig 0 = false from by decide, if_neg (by simp), dgLen]
theorem parse_dig {c : UInt8} {d : List UInt8} (h : (c :: d).all isDig = true) :
    parseL (c :: d) = if c = 48 ∧ d ≠ [] then (0, 5) else if 1099511627776 < dval (c :: d) then (0, 9) else ((dval (c :: d) : Int), 0) := by
  have hc : isDig c = true := by rw [List.all_cons, Bool.and_eq_true] at h; exact h.1
  have h45 : c ≠ 45 := by rintro rfl; exact absurd hc (by decide)
  obtain ⟨e1, e2⟩ := mgn_pos (s := c :: d) (by simpa using h45)
  unfold parseL parseD
  rw [if_neg (by simp), e1, e2, if_neg (by simp), if_pos h]
  by_cases h0 : c = 48 ∧ d ≠ []
  · rw [if_pos h0, if_pos ⟨by simp [h0.1], by simp [h0.2]⟩]
  · rw [if_neg h0, if_neg (fun hh => h0 ⟨by simpa using hh.1, fun hd => hh.2 (by rw [hd]; have := hh.1; simp at this; rw [this])⟩)]
    by_cases h2 : 1099511627776 < dval (c :: d)
    · rw [if_pos h2, if_pos h2]
    · rw [if_neg h2, if_neg h2]; rfl
theorem min_step7 (a d c : Nat) : min (10 * a + d) c = min (10 * min a c + d) c := by omega
set_option maxRecDepth 100000 in
set_option maxHeartbeats 4000000 in
theorem number_any (s : ByteArray) (i : Nat) (c0 : UInt8) (t : List UInt8) (w : World) (hs : s.size ≤ 4611686018427387904) (hd : s.data.toList.drop i = c0 :: t) (hl : lxLet c0 = false) (hg : isDig c0 = true) :
    Calls Tryd.prog 78 #[.string s, .int .i64 (i : Int)] w (Ret (oneV (lxOne (c0 :: t)) i) w) := by
  have hi : i < s.size := by
    have := congrArg List.length hd
    rw [List.length_drop, size_list, List.length_cons] at this; omega
  have hc0 : s.data.toList[i]? = some c0 := by
    have : (s.data.toList.drop i)[0]? = some c0 := by rw [hd]; rfl
    rw [List.getElem?_drop] at this; exact this
  have CA0 := Lib.hid (fun w => at_lt s i c0 w (by omega) hc0)
  have HD := Lib.hid hd
  have hfirst : dgLen (c0 :: t) = dgLen t + 1 := by rw [dgLen, if_pos hg]
  have hdl : (c0 :: t).take (dgLen (c0 :: t)) = c0 :: t.take (dgLen t) := by rw [hfirst]; rfl
  have hall := dg_all (c0 :: t)
  have hp : parseL ((c0 :: t).take (dgLen (c0 :: t))) = if c0 = 48 ∧ t.take (dgLen t) ≠ [] then (0, 5) else if 1099511627776 < dval ((c0 :: t).take (dgLen (c0 :: t))) then (0, 9) else ((dval ((c0 :: t).take (dgLen (c0 :: t))) : Int), 0) := by
    rw [hdl] at hall ⊢; exact parse_dig hall
  have htake : t.take (dgLen t) ≠ [] ↔ 1 < dgLen (c0 :: t) := by
    have := dg_le t
    rw [hfirst]
    cases hdt : dgLen t with
    | zero => simp
    | succ n =>
      cases t with
      | nil => simp [dgLen] at hdt
      | cons a b => simp
  have HO : Hid (lxOne (c0 :: t) = if (parseL ((c0 :: t).take (dgLen (c0 :: t)))).2 = 0 then (2, (c0 :: t).take (dgLen (c0 :: t)), (parseL ((c0 :: t).take (dgLen (c0 :: t)))).1, dgLen (c0 :: t), 0) else (0, [], 0, 0, (parseL ((c0 :: t).take (dgLen (c0 :: t)))).2)) := by
    show _ = _; rw [lxOne, if_neg (by rw [hl]; simp), if_pos hg]
  simp only [htake] at hp
  have HP := Lib.hid hp
  have HF : Hid (1 ≤ dgLen (c0 :: t)) := by show 1 ≤ _; omega
  have h48 : ((c0.toNat : Int) == 48) = (c0 == 48) := (u8eq c0 48 (by decide)).symm
  clear hd hl hall hdl hp hfirst htake hc0 hg
  go_enter Tryd.func78, Tryd.ntmps78
  go_wp2
  go_loop [7, 8] (fun k n => ∃ (m v : Nat), m ≤ s.size ∧ i ≤ m ∧ k = .int .i64 m ∧ n = .int .i64 v ∧ v ≤ 1099511627777 ∧ Hid (m - i + dgLen (s.data.toList.drop m) = dgLen (s.data.toList.drop i)) ∧ Hid (v = min (dval ((s.data.toList.drop i).take (m - i))) 1099511627777)) (fun k _ => s.size - (intOf k).toNat)
  case atStart => exact ⟨i, 0, by omega, Nat.le_refl _, rfl, rfl, by omega, by show _ = _; omega, by show _ = _; rw [Nat.sub_self, List.take_zero]; rfl⟩
  case round =>
    obtain ⟨m, v, hm, him, rfl, rfl, hv, hN, hV⟩ := hrel
    have hstep := dg_at s.data.toList m
    obtain ⟨d, hdm⟩ : ∃ d, hdB s.data.toList m = d := ⟨_, rfl⟩
    have CA := Lib.hid (fun w => at_hd s m w hs (by omega))
    rw [hdm] at hstep CA
    have hdb := UInt8.toNat_lt d
    by_cases hb : isDig d = true
    · have hlt : m < s.size := by
        rcases Nat.lt_or_ge m s.size with h | h
        · exact h
        · rw [hdB_end (by rw [size_list]; exact h)] at hdm
          rw [← hdm] at hb; exact absurd hb (by decide)
      have hdd : s.data.toList[m]? = some d := by
        obtain ⟨d', _, _, hd', _⟩ := drop_at (D := s.data.toList) (k := m) (by rw [size_list]; exact hlt)
        rw [hdB_lt hd'] at hdm; rw [hd', hdm]
      have hsm := byte_at hlt hdd
      rw [if_pos hb] at hstep
      have HS : Hid (m + 1 - i + dgLen (s.data.toList.drop (m + 1)) = dgLen (s.data.toList.drop i)) := by have := hN.out; show _ = _; omega
      have HV : Hid (min (dval ((s.data.toList.drop i).take (m + 1 - i))) 1099511627777 = min (10 * v + (d.toNat - 48)) 1099511627777) := by
        show _ = _
        have : (s.data.toList.drop i)[m - i]? = some d := by rw [List.getElem?_drop, show i + (m - i) = m by omega]; exact hdd
        rw [show m + 1 - i = m - i + 1 by omega, take_one this, dval_snoc, hV.out]; exact min_step7 _ _ _
      obtain ⟨g1, g2⟩ := isDig_iff.1 hb
      have g3 : ((d.toNat : Nat) : Int) - 48 = ((d.toNat - 48 : Nat) : Int) := by omega
      have hw1 : 0 ≤ (d.toNat : Int) - 48 := by omega
      clear hstep hN hV hdm hdd
      by_cases hmin : 10 * v + (d.toNat - 48) ≤ 1099511627777
      · have hmi : (10 : Int) * (v : Int) + ((d.toNat : Int) - 48) ≤ 1099511627777 := by omega
        have HX : Hid (min (10 * v + (d.toNat - 48)) 1099511627777 = 10 * v + (d.toNat - 48)) := Nat.min_eq_left hmin
        have HY : 10 * v + (d.toNat - 48) ≤ 1099511627777 := hmin
        clear hmin
        go_wp2_with (first | (go_at_call 77; refine (isDigit_any d _).mono ?_; rintro e w' ⟨rfl, rfl⟩) | (go_at_call 74; refine (CA.out _).mono ?_; rintro e w' ⟨rfl, rfl⟩))
        go_round
        case rel => exact ⟨m + 1, 10 * v + (d.toNat - 48), by omega, by omega, by go_num, by first | rfl | (congr 1; omega), HY, HS, by show _ = _; rw [HV.out, HX.out]⟩
        case measure => simp [intOf] <;> omega
      · have hmi : ¬ (10 : Int) * (v : Int) + ((d.toNat : Int) - 48) ≤ 1099511627777 := by omega
        have HX : Hid (min (10 * v + (d.toNat - 48)) 1099511627777 = 1099511627777) := Nat.min_eq_right (by omega)
        clear hmin
        go_wp2_with (first | (go_at_call 77; refine (isDigit_any d _).mono ?_; rintro e w' ⟨rfl, rfl⟩) | (go_at_call 74; refine (CA.out _).mono ?_; rintro e w' ⟨rfl, rfl⟩))
        go_round
        case rel => exact ⟨m + 1, 1099511627777, by omega, by omega, by go_num, by first | rfl | (congr 1; omega), Nat.le_refl _, HS, by show _ = _; rw [HV.out, HX.out]⟩
        case measure => simp [intOf] <;> omega
    · have hb' : isDig d = false := by simpa using hb
      rw [if_neg hb] at hstep
      have hk : m - i = dgLen (c0 :: t) := by have := hN.out; rw [HD.out] at this; omega
      have hval := hV.out
      rw [hk, HD.out] at hval
      have hF := HF.out
      generalize hD2 : dval ((c0 :: t).take (dgLen (c0 :: t))) = V at *
      have hp2 := HP.out
      clear hstep hN hV hb hdm HF
      by_cases h5 : c0 = 48 ∧ 1 < dgLen (c0 :: t)
      · rw [if_pos h5] at hp2
        have HR : Hid (oneV (lxOne (c0 :: t)) i = .tuple #[.agg #[.int .i64 0, .string ⟨#[]⟩, .int .i64 0, .int .i64 0], .int .i64 (i : Int), .int .i64 5]) := by
          show _ = _; rw [HO.out, hp2]; simp [oneV, oneX, lxV]
        have e48 : ((c0.toNat : Int) == 48) = true := by rw [h48, h5.1]; rfl
        have hgt : (i : Int) + 1 < (m : Int) := by have := h5.2; omega
        clear h5 hp2 hval hk h48 hD2 HP
        go_wp2_with (first | (go_at_call 77; refine (isDigit_any d _).mono ?_; rintro e w' ⟨rfl, rfl⟩) | (go_at_call 74; (first | (refine (CA.out _).mono ?_; rintro e w' ⟨rfl, rfl⟩; clear CA) | (refine (CA0.out _).mono ?_; rintro e w' ⟨rfl, rfl⟩))))
        rw [HR.out]
        exact bodyPost_ret (v := .tuple #[.agg #[.int .i64 0, .string ⟨#[]⟩, .int .i64 0, .int .i64 0], .int .i64 (i : Int), .int .i64 5]) (by simp [results, Tryd.results78, go_sem]) rfl ⟨rfl, (Below.refl _ _).alloc (Nat.le_refl _) _⟩
      · rw [if_neg h5] at hp2
        have hcs : ((c0.toNat : Int) == 48) = false ∨ (((c0.toNat : Int) == 48) = true ∧ ¬ (i : Int) + 1 < (m : Int)) := by
          by_cases h6 : c0 = 48
          · exact .inr ⟨by rw [h48, h6]; rfl, by have : ¬ 1 < dgLen (c0 :: t) := fun h => h5 ⟨h6, h⟩; omega⟩
          · exact .inl (by rw [h48]; simpa using h6)
        clear h5 h48
        by_cases h9 : 1099511627776 < V
        · rw [if_pos h9] at hp2
          have HR : Hid (oneV (lxOne (c0 :: t)) i = .tuple #[.agg #[.int .i64 0, .string ⟨#[]⟩, .int .i64 0, .int .i64 0], .int .i64 (i : Int), .int .i64 9]) := by
            show _ = _; rw [HO.out, hp2]; simp [oneV, oneX, lxV]
          have hgt : (1099511627776 : Int) < (v : Int) := by omega
          clear hp2 hval hk h9 hD2 HP
          rcases hcs with e48 | ⟨e48, hng⟩
          all_goals
            go_wp2_with (first | (go_at_call 77; refine (isDigit_any d _).mono ?_; rintro e w' ⟨rfl, rfl⟩) | (go_at_call 74; (first | (refine (CA.out _).mono ?_; rintro e w' ⟨rfl, rfl⟩; clear CA) | (refine (CA0.out _).mono ?_; rintro e w' ⟨rfl, rfl⟩))))
            rw [HR.out]
            exact bodyPost_ret (v := .tuple #[.agg #[.int .i64 0, .string ⟨#[]⟩, .int .i64 0, .int .i64 0], .int .i64 (i : Int), .int .i64 9]) (by simp [results, Tryd.results78, go_sem]) rfl ⟨rfl, (Below.refl _ _).alloc (Nat.le_refl _) _⟩
        · rw [if_neg h9] at hp2
          have hvV : v = V := by omega
          have HR : Hid (oneV (lxOne (c0 :: t)) i = .tuple #[.agg #[.int .i64 2, .string (s.extract i m), .int .i64 v, .int .i64 i], .int .i64 (m : Int), .int .i64 0]) := by
            show _ = _; rw [HO.out, hp2, extract_eq, HD.out, hk, hvV]; simp [oneV, oneX, lxV]; omega
          have hgt : ¬ (1099511627776 : Int) < (v : Int) := by omega
          clear hp2 hval hk h9 hD2 HP hvV
          rcases hcs with e48 | ⟨e48, hng⟩
          all_goals
            go_wp2_with (first | (go_at_call 77; refine (isDigit_any d _).mono ?_; rintro e w' ⟨rfl, rfl⟩) | (go_at_call 74; (first | (refine (CA.out _).mono ?_; rintro e w' ⟨rfl, rfl⟩; clear CA) | (refine (CA0.out _).mono ?_; rintro e w' ⟨rfl, rfl⟩))))
            rw [HR.out]
            exact bodyPost_ret (v := .tuple #[.agg #[.int .i64 2, .string (s.extract i m), .int .i64 v, .int .i64 i], .int .i64 (m : Int), .int .i64 0]) (by simp [results, Tryd.results78, go_sem]) rfl ⟨rfl, (Below.refl _ _).alloc (Nat.le_refl _) _⟩
end Go.Proofs.YthfnncnmggkfaaaDoor

namespace Go.Proofs.YthfnncnmggkfaaaDoor
open Go Go.RowKit

theorem bld_size : (Tryd.prog.info? 67).map (·.size) = some 2 := by kernel_rfl
theorem bld_lies : liesAt Tryd.prog Tryd.prog.depth 67 (2 / Tryd.prog.cellsOf 67) 0 67 1 = true := by kernel_rfl
theorem byte_info : (Tryd.prog.info? 5).map (fun i => (i.zero, i.size, i.bytes)) = some (some (.int .u8 0), 1, 1) := by kernel_rfl
def Bl (B b : Nat) (l : List UInt8) (w : World) : Prop := Lib.IsBuilderF 67 5 B b (Lib.byteCells l) w
def BlU (B b : Nat) (bs : List Value) (w : World) : Prop := Lib.BuilderAtF 67 5 B b (.pointer (some ⟨b, 0, none⟩)) bs w
set_option maxHeartbeats 1000000 in
set_option maxRecDepth 100000 in
theorem cc_used (b : Nat) (w : World) (h0 : w.cell? ⟨b, 0, none⟩ = some (.pointer (some ⟨b, 0, none⟩))) :
    Calls Tryd.prog 54 #[.pointer (some ⟨b, 0, none⟩)] w fun e w' => e = .returned (.tuple #[]) ∧ w' = w := by
  obtain ⟨j, hj, hjs⟩ := Option.map_eq_some_iff.1 bld_size
  go_enter Tryd.func54, Tryd.ntmps54
  go_wp2
  rw [Lib.run_neq_ptr_same w ⟨b, 0, none⟩ Tryd.underlying64 hj]
  go_wp2
  go_end0
  exact ⟨rfl, rfl⟩
set_option maxHeartbeats 1000000 in
set_option maxRecDepth 100000 in
theorem cc_fresh (b : Nat) (w : World) (h0 : w.cell? ⟨b, 0, none⟩ = some (.pointer none)) (hsh : w.shape? b = some (67, 2)) (hfz : w.frozen? ⟨b, 0, none⟩ = false) :
    Calls Tryd.prog 54 #[.pointer (some ⟨b, 0, none⟩)] w fun e w' => e = .returned (.tuple #[]) ∧ w' = w.setCell ⟨b, 0, none⟩ (.pointer (some ⟨b, 0, none⟩)) := by
  obtain ⟨j, hj, hjs⟩ := Option.map_eq_some_iff.1 bld_size
  go_enter Tryd.func54, Tryd.ntmps54
  go_wp2
  rw [Lib.run_to_unsafe w ⟨b, 0, none⟩ Tryd.underlying64 Tryd.underlying125 hj (by rw [hjs]; decide) hsh (Nat.zero_lt_succ 1)]
  simp only [Result.andThen]
  rw [Oper.upon_value]
  go_wp2
  rw [run_callFunc_extern Tryd.func71 (by kernel_rfl) (by kernel_rfl) (by kernel_rfl) (e := Extern.AbiNoEscape.same) (by kernel_rfl)]
  rw [Lib.run_noEscape]
  simp only [Result.andThen]
  rw [Oper.upon_value]
  go_wp2
  rw [Lib.run_from_unsafe w ⟨b, 0, none⟩ Tryd.underlying125 Tryd.underlying64 hj hsh bld_lies]
  simp only [Result.andThen]
  rw [Oper.upon_value]
  go_wp2
  go_end0
  exact ⟨rfl, rfl⟩
theorem cc_any (B b : Nat) (bs : List Value) (w : World) (h : Lib.IsBuilderF 67 5 B b bs w) :
    Calls Tryd.prog 54 #[.pointer (some ⟨b, 0, none⟩)] w fun e w' => e = .returned (.tuple #[]) ∧ BlU B b bs w' ∧ Below B w w' := by
  rcases h with h | h
  · refine (cc_fresh b w h.cell0 h.shape h.frozen0).mono ?_
    rintro e w' ⟨rfl, rfl⟩
    exact ⟨rfl, h.used _, (Below.refl B w).setCell (p := ⟨b, 0, none⟩) h.1 _⟩
  · refine (cc_used b w h.cell0).mono ?_
    rintro e w' ⟨rfl, rfl⟩
    exact ⟨rfl, h, Below.refl B _⟩
/-- what a write leaves. -/
def BlW (B b : Nat) (l : List UInt8) (r : Value) (w : World) (e : Ending) (w' : World) : Prop := e = .returned r ∧ Bl B b l w' ∧ Below B w w'
theorem BlU.bl {B b : Nat} {l : List UInt8} {w : World} (h : BlU B b (Lib.byteCells l) w) : Bl B b l w := .inr h
theorem bc_one (l : List UInt8) (c : UInt8) : Lib.byteCells l ++ [.int .u8 (c.toNat : Int)] = Lib.byteCells (l ++ [c]) := by rw [Lib.byteCells_append]; rfl
set_option maxHeartbeats 2000000 in
set_option maxRecDepth 100000 in
theorem bld_str (B b : Nat) (l : List UInt8) (s : ByteArray) (w : World) (h : Bl B b l w) (hlen : l.length + s.size ≤ 140737488355328) (hBw : B ≤ w.heap.size) :
    Calls Tryd.prog 33 #[.pointer (some ⟨b, 0, none⟩), .string s] w (BlW B b (l ++ s.data.toList) (.tuple #[.int .i64 (s.size : Int), .nilIface]) w) := by
  obtain ⟨i0, hi, hz0, hz1, hz2⟩ := info_parts byte_info
  have hlb := Lib.byteCells_length l
  have hres : Lib.byteCells l ++ Lib.strCells s = Lib.byteCells (l ++ s.data.toList) := by rw [Lib.byteCells_append]; rfl
  generalize hbs : Lib.byteCells l = bs at *
  have HB := Lib.hid hbs
  have HL := Lib.hid hlb
  have HR := Lib.hid hres
  have hlen' : bs.length + s.size ≤ 140737488355328 := by omega
  clear hbs hlb hres
  unfold Bl at h
  rw [HB.out] at h
  go_enter Tryd.func33, Tryd.ntmps33
  go_wp2_with (go_at_call 54; refine (cc_any B b bs _ h).mono ?_)
  rintro e w1 ⟨rfl, h1, hb1⟩
  obtain ⟨hB, v, hbk, hown, hne⟩ := h1
  have c0 : w1.cell? ⟨b, 0, none⟩ = some (.pointer (some ⟨b, 0, none⟩)) := by rw [Lib.cell_of_heap hbk]; rfl
  have c1 : w1.cell? ⟨b, 1, none⟩ = some v := by rw [Lib.cell_of_heap hbk]; rfl
  go_wp2_with (at_builtin; refine Lib.wpList_append_own_stringF _ rfl _ _ 65 9 rfl B 5 i0 Tryd.underlying65 Tryd.underlying9 hi hz0 hz1 hz2 _ _ _ rfl hown s rfl (by unfold maxLen; omega) (by omega) (by have := hb1.size; omega) ?_)
  intro v' w2 hown' hgrow _
  have hlt : b < w1.heap.size := by
    rcases Nat.lt_or_ge b w1.heap.size with h' | h'
    · exact h'
    · simp [Array.getElem?_eq_none h'] at hbk
  have hb2 : w2.heap[b]? = some (.cells #[.pointer (some ⟨b, 0, none⟩), v] 67 (0, 0)) := by
    rw [hgrow.block b hlt (fun e => hne e.symm)]
    exact hbk
  have d0 : w2.cell? ⟨b, 0, none⟩ = some (.pointer (some ⟨b, 0, none⟩)) := by rw [Lib.cell_of_heap hb2]; rfl
  have d1 : w2.cell? ⟨b, 1, none⟩ = some v := by rw [Lib.cell_of_heap hb2]; rfl
  have f1 : w2.frozen? ⟨b, 1, none⟩ = false := Lib.frozen_of_heap hb2 1
  obtain ⟨ao, n', cap, rfl⟩ : ∃ ao n' cap, v' = .slice ao n' cap := by
    rcases hown'.2 with ⟨hv, _⟩ | ⟨g, cap, cur, fz, hv, _⟩
    · exact ⟨_, _, _, hv⟩
    · exact ⟨_, _, _, hv⟩
  go_wp2
  go_ret2
  refine ⟨rfl, ?_, ?_⟩
  · refine BlU.bl ?_
    rw [← HR.out]
    exact Lib.BuilderAtF.put (T := 67) (e := 5) hB hb2 (bs' := bs ++ Lib.strCells s) (by simpa [Lib.strCells_length] using hown') (by decide)
  · exact (hb1.grown hgrow (by have := hb1.size; omega) (fun k hk => (hown.lt k hk).1)).setCell (p := ⟨b, 1, none⟩) hB _
/-- WriteRune at a byte below 128. -/
def AppR (B : Nat) (bs : List Value) (v : Value) (c : Int) (w : World) (e : Ending) (w' : World) : Prop :=
  ∃ v', e = .returned v' ∧ w'.ownsRowF B 5 1 v' (bs.length + 1) (bs ++ [.int .u8 c]) ∧ ∃ o, (w.alloc o).grownBy w' v.ownBlock
set_option maxHeartbeats 2000000 in
set_option maxRecDepth 100000 in
theorem app_rune (B : Nat) (v : Value) (bs : List Value) (c : Nat) (w : World) (hc : c < 128) (hown : w.ownsRowF B 5 1 v bs.length bs) (hlen : bs.length + 1 ≤ 140737488355328) (hBw : B ≤ w.heap.size) :
    Calls Tryd.prog 104 #[v, .int .i32 (c : Int)] w (AppR B bs v (c : Int) w) := by
  obtain ⟨i0, hi, hz0, hz1, hz2⟩ := info_parts byte_info
  have hc' : (c : Int) ≤ 127 := by omega
  have e1 : IntKind.u32.wrap (c : Int) = (c : Int) := by rw [IntKind.wrap_u32]; omega
  have e2 : IntKind.u8.wrap (c : Int) = (c : Int) := by rw [IntKind.wrap_u8]; omega
  go_enter Tryd.func104, Tryd.ntmps104
  go_wp2_with (at_builtin; refine wpList_append_ownF _ rfl _ _ 65 rfl B 5 i0 (.int .u8 0) 1 1 Tryd.underlying65 hi hz0 hz1 hz2 rfl (by decide) _ _ _ rfl (hown.alloc _) ⟨w.heap.size, 0, none⟩ 1 1 [.int .u8 (c : Int)] rfl rfl (new1_cells _ _ _) (one_oneCell rfl) (by unfold maxLen; omega) (by omega) (by simp; omega) ?_)
  intro v' w2 hown' hgrow _
  go_wp2
  go_ret
  exact ⟨v', rfl, hown', _, hgrow⟩
set_option maxHeartbeats 2000000 in
set_option maxRecDepth 100000 in
theorem bld_rune (B b : Nat) (l : List UInt8) (c : UInt8) (w : World) (hc : c.toNat < 128) (h : Bl B b l w) (hlen : l.length + 1 ≤ 140737488355328) (hBw : B ≤ w.heap.size) :
    Calls Tryd.prog 93 #[.pointer (some ⟨b, 0, none⟩), .int .i32 (c.toNat : Int)] w (BlW B b (l ++ [c]) (.tuple #[.int .i64 1, .nilIface]) w) := by
  have hlb := Lib.byteCells_length l
  have hres := bc_one l c
  generalize hbs : Lib.byteCells l = bs at *
  have HB := Lib.hid hbs
  have HL := Lib.hid hlb
  have HR := Lib.hid hres
  have hlen' : bs.length + 1 ≤ 140737488355328 := by omega
  clear hbs hlb hres
  unfold Bl at h
  rw [HB.out] at h
  go_enter Tryd.func93, Tryd.ntmps93
  go_wp2_with (go_at_call 54; refine (cc_any B b bs _ h).mono ?_)
  rintro e w1 ⟨rfl, h1, hb1⟩
  obtain ⟨hB, v, hbk, hown, hne⟩ := h1
  obtain ⟨ao, cap, rfl⟩ : ∃ ao cap, v = .slice ao bs.length cap := by
    rcases hown.2 with ⟨hv, h0⟩ | ⟨g, cap, cur, fz, hv, _⟩
    · exact ⟨none, 0, by rw [hv, h0]⟩
    · exact ⟨_, _, hv⟩
  have c0 : w1.cell? ⟨b, 0, none⟩ = some (.pointer (some ⟨b, 0, none⟩)) := by rw [Lib.cell_of_heap hbk]; rfl
  have c1 : w1.cell? ⟨b, 1, none⟩ = some (.slice ao bs.length cap) := by rw [Lib.cell_of_heap hbk]; rfl
  go_wp2_with (go_at_call 104; refine (app_rune B _ bs c.toNat _ hc hown hlen' (by have := hb1.size; omega)).mono ?_)
  rintro e w2 ⟨v', rfl, hown', o, hgrow⟩
  have hlt : b < w1.heap.size := by
    rcases Nat.lt_or_ge b w1.heap.size with h' | h'
    · exact h'
    · simp [Array.getElem?_eq_none h'] at hbk
  have hb2 : w2.heap[b]? = some (.cells #[.pointer (some ⟨b, 0, none⟩), .slice ao bs.length cap] 67 (0, 0)) := by
    rw [hgrow.block b (by simp; omega) (fun e => hne e.symm), Lib.alloc_old w1 _ b hlt]
    exact hbk
  have d0 : w2.cell? ⟨b, 0, none⟩ = some (.pointer (some ⟨b, 0, none⟩)) := by rw [Lib.cell_of_heap hb2]; rfl
  have d1 : w2.cell? ⟨b, 1, none⟩ = some (.slice ao bs.length cap) := by rw [Lib.cell_of_heap hb2]; rfl
  have f1 : w2.frozen? ⟨b, 1, none⟩ = false := Lib.frozen_of_heap hb2 1
  obtain ⟨g, cap', rfl⟩ : ∃ g cap', v' = .slice (some ⟨g, 0, none⟩) (bs.length + 1) cap' := by
    rcases hown'.2 with ⟨_, h0⟩ | ⟨g, cap', cur, fz, hv, _⟩
    · omega
    · exact ⟨g, cap', hv⟩
  go_wp2
  go_ret2
  refine ⟨?_, ?_, ?_⟩
  · have e' : ((bs.length : Int) + 1 - (bs.length : Int)) = 1 := by omega
    simp [e']
  · refine BlU.bl ?_
    rw [← HR.out]
    exact Lib.BuilderAtF.put (T := 67) (e := 5) hB hb2 (bs' := bs ++ [.int .u8 (c.toNat : Int)]) (by simpa using hown') (by decide)
  · exact ((hb1.alloc (by have := hb1.size; omega) _).grown hgrow (by have := hb1.size; simp; omega) (fun k hk => (hown.lt k hk).1)).setCell (p := ⟨b, 1, none⟩) hB _
/-- a new builder. -/
theorem bl_fresh (w : World) : Bl w.heap.size w.heap.size [] (w.alloc (.cells #[.pointer none, .slice none 0 0] 67)) := Lib.IsBuilderF.of (Lib.fresh_isBuilder 67 5 w)
end Go.Proofs.YthfnncnmggkfaaaDoor

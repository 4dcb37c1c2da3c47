/- Chapter 07: one of the reference, by walking its text. -/
import Derived.Test.YthfnncnmggkfaaaDoorLexR3M
import Derived.RegionTactic
namespace Go.Proofs.YthfnncnmggkfaaaDoor
open Go Go.RowKit

theorem nm_all : ∀ t : List UInt8, (t.take (nmLen t)).all nmAll = true
  | [] => by simp [nmLen]
  | c :: t => by
    by_cases hc : nmC c t = true
    · have e : nmLen (c :: t) = nmLen t + 1 := by rw [nmLen, if_pos hc]
      rw [e, List.take_succ_cons, List.all_cons, nm_all t, Bool.and_true]
      unfold nmC at hc
      unfold nmAll
      cases h1 : lxNm c <;> simp_all
    · have e : nmLen (c :: t) = 0 := by rw [nmLen, if_neg hc]
      rw [e]; simp
theorem isNameF_name {c : UInt8} {t : List UInt8} (h : lxLet c = true) : isNameF ((c :: t).take (nmLen t + 1)) = decide (nmLen t + 1 ≤ 16) := by
  rw [List.take_succ_cons, isNameF_cons, h, List.all_cons, nm_all, List.length_take_of_le (nm_le t)]
  have : nmAll c = true := by unfold nmAll lxNm; rw [h]; rfl
  rw [this]; simp
theorem name_len {c : UInt8} {t : List UInt8} (h : lxLet c = true) : nmLen (c :: t) = nmLen t + 1 := by
  rw [nmLen, if_pos (by unfold nmC lxNm; rw [h]; rfl)]
set_option maxRecDepth 100000 in
set_option maxHeartbeats 4000000 in
theorem refOne_let (s : ByteArray) (i : Nat) (c : UInt8) (t : List UInt8) (w : World) (hz : s.size ≤ 1000000000) (hd : s.data.toList.drop i = c :: t) (h1 : lxLet c = true) :
    Calls Tryd.prog 61 #[.string s, .int .i64 (i : Int)] w (Ret (oneV (lxOne (c :: t)) i) w) := by
  have hi : i < s.size := by
    have := congrArg List.length hd
    rw [List.length_drop, size_list, List.length_cons] at this; omega
  have hc0 : s.data.toList[i]? = some c := by
    have : (s.data.toList.drop i)[0]? = some c := by rw [hd]; rfl
    rw [List.getElem?_drop] at this; exact this
  have hsi := byte_at hi hc0
  have hnl := name_len (t := t) h1
  obtain ⟨m, hm⟩ : ∃ m, m = i + (nmLen t + 1) := ⟨_, rfl⟩
  have CN := Lib.hid (fun w => refName_any s i w (by omega) (by omega))
  rw [hd, hnl, ← hm] at CN
  have hmb : m ≤ s.size := by
    have h2 := nm_le t
    have h3 := congrArg List.length hd
    rw [List.length_drop, size_list, List.length_cons] at h3
    omega
  have CI := Lib.hid (fun w => isName_any (s.extract i m) w (by rw [← size_list, extract_list, List.length_take, List.length_drop, size_list]; omega))
  rw [extract_list, hd, show m - i = nmLen t + 1 by omega, isNameF_name h1] at CI
  have HX : Hid (s.extract i m = ⟨((c :: t).take (nmLen t + 1)).toArray⟩) := by show _ = _; rw [extract_eq, hd, show m - i = nmLen t + 1 by omega]
  have HO : Hid (lxOne (c :: t) = if 16 < nmLen t + 1 then (0, [], 0, 0, 6) else (1, (c :: t).take (nmLen t + 1), 0, nmLen t + 1, 0)) := by show _ = _; rw [lxOne, if_pos h1]
  have him : i ≤ m := by omega
  by_cases hlong : 16 < nmLen t + 1
  · have HR : Hid (oneV (lxOne (c :: t)) i = .tuple #[.agg #[.int .i64 0, .string ⟨#[]⟩, .int .i64 0, .int .i64 0], .int .i64 (i : Int), .int .i64 6]) := by
      show _ = _; rw [HO.out, if_pos hlong]; simp [oneV, oneX, lxV]
    rw [decide_eq_false (by omega)] at CI
    clear hd hc0 hnl hm hlong HO HX
    go_enter Tryd.func61, Tryd.ntmps61
    go_wp2_with (first | (go_at_call 83; refine (refLetter_any c _).mono ?_; rintro e w' ⟨rfl, rfl⟩) | (go_at_call 84; refine (CN.out _).mono ?_; rintro e w' ⟨rfl, rfl⟩) | (go_at_call 85; refine (CI.out _).mono ?_; rintro e w' ⟨rfl, rfl⟩))
    rw [HR.out]
    exact bodyPost_ret (v := .tuple #[.agg #[.int .i64 0, .string ⟨#[]⟩, .int .i64 0, .int .i64 0], .int .i64 (i : Int), .int .i64 6]) (by simp [results, Tryd.results61, go_sem]) rfl ⟨rfl, ((Below.refl w.heap.size w).alloc (Nat.le_refl _) _).alloc (by simp) _⟩
  · have HR : Hid (oneV (lxOne (c :: t)) i = .tuple #[.agg #[.int .i64 1, .string (s.extract i m), .int .i64 0, .int .i64 i], .int .i64 (m : Int), .int .i64 0]) := by
      show _ = _; rw [HO.out, if_neg hlong, HX.out]; simp [oneV, oneX, lxV]; omega
    rw [decide_eq_true (by omega)] at CI
    clear hd hc0 hnl hm hlong HO HX
    go_enter Tryd.func61, Tryd.ntmps61
    go_wp2_with (first | (go_at_call 83; refine (refLetter_any c _).mono ?_; rintro e w' ⟨rfl, rfl⟩) | (go_at_call 84; refine (CN.out _).mono ?_; rintro e w' ⟨rfl, rfl⟩) | (go_at_call 85; refine (CI.out _).mono ?_; rintro e w' ⟨rfl, rfl⟩))
    rw [HR.out]
    exact bodyPost_ret (v := .tuple #[.agg #[.int .i64 1, .string (s.extract i m), .int .i64 0, .int .i64 i], .int .i64 (m : Int), .int .i64 0]) (by simp [results, Tryd.results61, go_sem]) rfl ⟨rfl, ((Below.refl w.heap.size w).alloc (Nat.le_refl _) _).alloc (by simp) _⟩
set_option maxRecDepth 100000 in
set_option maxHeartbeats 4000000 in
theorem refOne_dig (s : ByteArray) (i : Nat) (c : UInt8) (t : List UInt8) (w : World) (hz : s.size ≤ 1000000000) (hd : s.data.toList.drop i = c :: t) (h1 : lxLet c = false) (h2 : isDig c = true) :
    Calls Tryd.prog 61 #[.string s, .int .i64 (i : Int)] w (Ret (oneV (lxOne (c :: t)) i) w) := by
  have hi : i < s.size := by
    have := congrArg List.length hd
    rw [List.length_drop, size_list, List.length_cons] at this; omega
  have hc0 : s.data.toList[i]? = some c := by
    have : (s.data.toList.drop i)[0]? = some c := by rw [hd]; rfl
    rw [List.getElem?_drop] at this; exact this
  have hsi := byte_at hi hc0
  have CN := Lib.hid (fun w => refNumber7_any s i w hz (by omega))
  rw [hd] at CN
  unfold NumRes at CN
  have hdl : ((c :: t).take (dgLen (c :: t))).length = dgLen (c :: t) := List.length_take_of_le (dg_le _)
  have hdb : dgLen (c :: t) ≤ s.size - i := by
    have h3 := dg_le (c :: t)
    have h4 := congrArg List.length hd
    rw [List.length_drop, size_list] at h4
    omega
  have HO : Hid (lxOne (c :: t) = if (parseL ((c :: t).take (dgLen (c :: t)))).2 = 0 then (2, (c :: t).take (dgLen (c :: t)), (parseL ((c :: t).take (dgLen (c :: t)))).1, dgLen (c :: t), 0) else (0, [], 0, 0, (parseL ((c :: t).take (dgLen (c :: t)))).2)) := by
    show _ = _; rw [lxOne, if_neg (by rw [h1]; simp), if_pos h2]
  obtain ⟨d, hdd⟩ : ∃ d, d = (c :: t).take (dgLen (c :: t)) := ⟨_, rfl⟩
  rw [← hdd] at CN HO hdl
  obtain ⟨p, hp⟩ : ∃ p, parseL d = p := ⟨_, rfl⟩
  rw [hp] at CN HO
  obtain ⟨p1, p2⟩ := p
  obtain ⟨k, hk⟩ : ∃ k, k = dgLen (c :: t) := ⟨_, rfl⟩
  rw [← hk] at HO hdl hdb
  obtain ⟨x, hx⟩ : ∃ x : ByteArray, x = ⟨d.toArray⟩ := ⟨_, rfl⟩
  have hxs : x.size = k := by rw [← size_list, hx]; simpa using hdl
  simp only at CN
  rw [← hx] at CN
  have HXX := Lib.hid hx
  have HXS := Lib.hid hxs
  have hxb : x.size ≤ s.size - i := by omega
  clear hd hc0 hdd hp hk hx hxs hdl hdb
  by_cases hp0 : p2 = 0
  · subst hp0
    have HR : Hid (oneV (lxOne (c :: t)) i = .tuple #[.agg #[.int .i64 2, .string x, .int .i64 p1, .int .i64 i], .int .i64 ((i : Int) + (x.size : Int)), .int .i64 0]) := by
      show _ = _; rw [HO.out, if_pos rfl, HXS.out, HXX.out]; simp [oneV, oneX, lxV]
    clear HO
    go_enter Tryd.func61, Tryd.ntmps61
    go_wp2_with (first | (go_at_call 83; refine (refLetter_any c _).mono ?_; rintro e w' ⟨rfl, rfl⟩) | (go_at_call 86; refine (refDigit_any c _).mono ?_; rintro e w' ⟨rfl, rfl⟩))
    refine (CN.out _).mono ?_
    rintro e w2 ⟨rfl, hb⟩
    have hblk := ((Blk.new w 90 lx0).alloc (.cells lx0 90)).below hb (by simp; omega)
    have hsz := hb.size
    obtain ⟨q0, q1, q2, q3, f0, f1, f2, f3⟩ := lx_cells hblk
    have hb2 := (((Below.refl w.heap.size w).alloc (Nat.le_refl _) (.cells lx0 90)).alloc (by simp) (.cells lx0 90)).trans (hb.mono (by simp; omega))
    have hsz2 : w.heap.size + 2 ≤ w2.heap.size := by simpa using hsz
    have hlt2 : w.heap.size < w2.heap.size := by omega
    go_wp2_with fail
    go_region
    all_goals
      go_wp2_with fail
      rw [HR.out]
      exact bodyPost_ret (v := .tuple #[.agg #[.int .i64 2, .string x, .int .i64 p1, .int .i64 i], .int .i64 ((i : Int) + (x.size : Int)), .int .i64 0]) (by simp [results, Tryd.results61, go_sem, q0, q1, q2, q3, hlt2]) rfl ⟨rfl, (by have hB := (((hb2.setCell (p := ⟨w.heap.size, 0, none⟩) (by simp) (.int .i64 2)).setCell (p := ⟨w.heap.size, 1, none⟩) (by simp) (.string x)).setCell (p := ⟨w.heap.size, 2, none⟩) (by simp) (.int .i64 p1)).setCell (p := ⟨w.heap.size, 3, none⟩) (by simp) (.int .i64 i); exact (hB.alloc hB.size _).drew)⟩
  · have hpn : (p2 != 0) = true := ine_t hp0
    have HR : Hid (oneV (lxOne (c :: t)) i = .tuple #[.agg #[.int .i64 0, .string ⟨#[]⟩, .int .i64 0, .int .i64 0], .int .i64 (i : Int), .int .i64 p2]) := by
      show _ = _; rw [HO.out, if_neg hp0]; simp [oneV, oneX, lxV, hp0]
    clear HO hp0
    go_enter Tryd.func61, Tryd.ntmps61
    go_wp2_with (first | (go_at_call 83; refine (refLetter_any c _).mono ?_; rintro e w' ⟨rfl, rfl⟩) | (go_at_call 86; refine (refDigit_any c _).mono ?_; rintro e w' ⟨rfl, rfl⟩))
    refine (CN.out _).mono ?_
    rintro e w2 ⟨rfl, hb⟩
    have hblk := ((Blk.new w 90 lx0).alloc (.cells lx0 90)).below hb (by simp; omega)
    have hblk1 := (Blk.new (w.alloc (.cells lx0 90)) 90 lx0).below hb (by simp)
    rw [show (w.alloc (.cells lx0 90)).heap.size = w.heap.size + 1 from by simp] at hblk1
    have hsz := hb.size
    obtain ⟨q0, q1, q2, q3, f0, f1, f2, f3⟩ := lx_cells hblk
    obtain ⟨r0, r1, r2, r3, g0, g1, g2, g3⟩ := lx_cells hblk1
    have hb2 := (((Below.refl w.heap.size w).alloc (Nat.le_refl _) (.cells lx0 90)).alloc (by simp) (.cells lx0 90)).trans (hb.mono (by simp; omega))
    have hsz2 : w.heap.size + 2 ≤ w2.heap.size := by simpa using hsz
    have hlt2 : w.heap.size < w2.heap.size := by omega
    have hlt3 : w.heap.size + 1 < w2.heap.size := by omega
    go_wp2_with fail
    rw [HR.out]
    exact bodyPost_ret (v := .tuple #[.agg #[.int .i64 0, .string ⟨#[]⟩, .int .i64 0, .int .i64 0], .int .i64 (i : Int), .int .i64 p2]) (by simp [results, Tryd.results61, go_sem, q0, q1, q2, q3, hlt2]) rfl ⟨rfl, (by have hB := (((hb2.setCell (p := ⟨w.heap.size, 0, none⟩) (by simp) (.int .i64 0)).setCell (p := ⟨w.heap.size, 1, none⟩) (by simp) (.string ⟨#[]⟩)).setCell (p := ⟨w.heap.size, 2, none⟩) (by simp) (.int .i64 0)).setCell (p := ⟨w.heap.size, 3, none⟩) (by simp) (.int .i64 0); exact (hB.alloc hB.size _))⟩
set_option maxRecDepth 100000 in
set_option maxHeartbeats 4000000 in
theorem refOne_str (s : ByteArray) (i : Nat) (c : UInt8) (t : List UInt8) (w : World) (hz : s.size ≤ 1000000000) (hd : s.data.toList.drop i = c :: t) (h1 : lxLet c = false) (h2 : isDig c = false) (h34 : (c == 34) = true) :
    Calls Tryd.prog 61 #[.string s, .int .i64 (i : Int)] w (Ret (oneV (lxOne (c :: t)) i) w) := by
  have hi : i < s.size := by
    have := congrArg List.length hd
    rw [List.length_drop, size_list, List.length_cons] at this; omega
  have hc0 : s.data.toList[i]? = some c := by
    have : (s.data.toList.drop i)[0]? = some c := by rw [hd]; rfl
    rw [List.getElem?_drop] at this; exact this
  have hsi := byte_at hi hc0
  have e34 : ((c.toNat : Int) == 34) = true := u8yes (k := 34) (by decide) h34
  have CN := Lib.hid (fun w => refText7_any s i c t w (by omega) hd)
  unfold TextRes at CN
  have HO : Hid (lxOne (c :: t) = if (qs t).2.2 then (3, (qs t).1, 0, (qs t).2.1 + 1, 0) else (0, [], 0, (qs t).2.1 + 1, 5)) := by
    show _ = _; rw [lxOne, if_neg (by rw [h1]; simp), if_neg (by rw [h2]; simp), if_pos h34]
  obtain ⟨q, hq⟩ : ∃ q, qs t = q := ⟨_, rfl⟩
  rw [hq] at CN HO
  obtain ⟨x, k, b⟩ := q
  clear hd hc0 hq h34
  cases b
  · have HR : Hid (oneV (lxOne (c :: t)) i = .tuple #[.agg #[.int .i64 0, .string ⟨#[]⟩, .int .i64 0, .int .i64 0], .int .i64 ((i : Int) + 1 + (k : Int)), .int .i64 5]) := by
      show _ = _; rw [HO.out]; simp [oneV, oneX, lxV]; omega
    have CN2 : Hid (∀ w, Calls Tryd.prog 88 #[.string s, .int .i64 (i : Int)] w fun e w' => e = .returned (.tuple #[.string ⟨#[]⟩, .int .i64 ((i : Int) + 1 + (k : Int)), .int .i64 5]) ∧ Below w.heap.size w w') := CN.out
    obtain ⟨en, hen⟩ : ∃ en, (i : Int) + 1 + (k : Int) = en := ⟨_, rfl⟩
    rw [hen] at HR CN2
    clear HO CN hen
    go_enter Tryd.func61, Tryd.ntmps61
    go_wp2_with (first | (go_at_call 83; refine (refLetter_any c _).mono ?_; rintro e w' ⟨rfl, rfl⟩) | (go_at_call 86; refine (refDigit_any c _).mono ?_; rintro e w' ⟨rfl, rfl⟩))
    refine (CN2.out _).mono ?_
    rintro e w2 ⟨rfl, hb⟩
    have hblk := ((Blk.new w 90 lx0).alloc (.cells lx0 90)).below hb (by simp; omega)
    have hblk1 := (Blk.new (w.alloc (.cells lx0 90)) 90 lx0).below hb (by simp)
    rw [show (w.alloc (.cells lx0 90)).heap.size = w.heap.size + 1 from by simp] at hblk1
    have hsz := hb.size
    obtain ⟨q0, q1, q2, q3, f0, f1, f2, f3⟩ := lx_cells hblk
    obtain ⟨r0, r1, r2, r3, g0, g1, g2, g3⟩ := lx_cells hblk1
    have hb2 := (((Below.refl w.heap.size w).alloc (Nat.le_refl _) (.cells lx0 90)).alloc (by simp) (.cells lx0 90)).trans (hb.mono (by simp; omega))
    have hsz2 : w.heap.size + 2 ≤ w2.heap.size := by simpa using hsz
    go_wp2_with fail
    rw [HR.out]
    exact bodyPost_ret (v := .tuple #[.agg #[.int .i64 0, .string ⟨#[]⟩, .int .i64 0, .int .i64 0], .int .i64 en, .int .i64 5]) (by simp [results, Tryd.results61, go_sem, q0, q1, q2, q3]) rfl ⟨rfl, (((hb2.setCell (by simp) _).setCell (by simp) _).setCell (by simp) _).setCell (by simp) _⟩
  · have HR : Hid (oneV (lxOne (c :: t)) i = .tuple #[.agg #[.int .i64 3, .string ⟨x.toArray⟩, .int .i64 0, .int .i64 i], .int .i64 ((i : Int) + 1 + (k : Int)), .int .i64 0]) := by
      show _ = _; rw [HO.out]; simp [oneV, oneX, lxV]; omega
    have CN2 : Hid (∀ w, Calls Tryd.prog 88 #[.string s, .int .i64 (i : Int)] w fun e w' => e = .returned (.tuple #[.string ⟨x.toArray⟩, .int .i64 ((i : Int) + 1 + (k : Int)), .int .i64 0]) ∧ Below w.heap.size w w') := CN.out
    obtain ⟨en, hen⟩ : ∃ en, (i : Int) + 1 + (k : Int) = en := ⟨_, rfl⟩
    rw [hen] at HR CN2
    clear HO CN hen
    go_enter Tryd.func61, Tryd.ntmps61
    go_wp2_with (first | (go_at_call 83; refine (refLetter_any c _).mono ?_; rintro e w' ⟨rfl, rfl⟩) | (go_at_call 86; refine (refDigit_any c _).mono ?_; rintro e w' ⟨rfl, rfl⟩))
    refine (CN2.out _).mono ?_
    rintro e w2 ⟨rfl, hb⟩
    have hblk := ((Blk.new w 90 lx0).alloc (.cells lx0 90)).below hb (by simp; omega)
    have hsz := hb.size
    obtain ⟨q0, q1, q2, q3, f0, f1, f2, f3⟩ := lx_cells hblk
    have hb2 := (((Below.refl w.heap.size w).alloc (Nat.le_refl _) (.cells lx0 90)).alloc (by simp) (.cells lx0 90)).trans (hb.mono (by simp; omega))
    have hsz2 : w.heap.size + 2 ≤ w2.heap.size := by simpa using hsz
    go_wp2_with fail
    rw [HR.out]
    exact bodyPost_ret (v := .tuple #[.agg #[.int .i64 3, .string ⟨x.toArray⟩, .int .i64 0, .int .i64 i], .int .i64 en, .int .i64 0]) (by simp [results, Tryd.results61, go_sem, q0, q1, q2, q3]) rfl ⟨rfl, (((hb2.setCell (by simp) _).setCell (by simp) _).setCell (by simp) _).setCell (by simp) _⟩
end Go.Proofs.YthfnncnmggkfaaaDoor

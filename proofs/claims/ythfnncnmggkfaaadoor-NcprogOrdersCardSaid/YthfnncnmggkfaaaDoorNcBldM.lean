/- Chapter 07: quoted of the program, by walking its text. -/
/- (*strings.Builder).WriteString once more, with a frame: blocks of other types stay as they are. -/
import Derived.Test.YthfnncnmggkfaaaDoorBldM
namespace Go.Proofs.YthfnncnmggkfaaaDoor
open Go Go.RowKit

theorem qs_bad {c : UInt8} {u : List UInt8} (h1 : (c == 34) = false) (h2 : lxPl c = false) (h3 : (c == 92) = false ∨ ((u.headD 0 == 34) = false ∧ (u.headD 0 == 92) = false ∧ (u.headD 0 == 110) = false)) : qs (c :: u) = ([], 0, false) := by
  cases u with
  | nil => rw [qs, if_neg (by rw [h1]; simp), if_neg (by rw [h2]; simp)]
  | cons d u =>
    have g1 : (c == 92 && (d == 34 || d == 92)) = false := by
      rcases h3 with h | ⟨h, h', _⟩
      · rw [h]; rfl
      · have a : (d == 34) = false := h
        have b : (d == 92) = false := h'
        rw [a, b]; simp
    have g2 : (c == 92 && d == 110) = false := by
      rcases h3 with h | ⟨_, _, h⟩
      · rw [h]; rfl
      · have a : (d == 110) = false := h
        rw [a]; simp
    rw [qs, if_neg (by rw [h1]; simp), if_neg (by rw [h2]; simp), if_neg (by rw [g1]; simp), if_neg (by rw [g2]; simp)]
theorem hdB_of {D : List UInt8} {k : Nat} {u : List UInt8} (h : D.drop k = u) : hdB D k = u.headD 0 := by unfold hdB; rw [h]
theorem drop_hd {D : List UInt8} {k : Nat} {d : UInt8} (h : hdB D k = d) (hd : d ≠ 0) : D.drop k = d :: D.drop (k + 1) := by
  rcases Nat.lt_or_ge k D.length with h2 | h2
  · obtain ⟨c, t, e1, e2, e3⟩ := drop_at h2
    rw [hdB_lt e2] at h
    rw [e1, e3, h]
  · rw [hdB_end h2] at h; exact absurd h.symm hd
theorem at_hd1 (s : ByteArray) (k : Nat) (w : World) (hs : s.size ≤ 4611686018427387904) (hk : k + 1 ≤ 9223372036854775807) :
    Calls Tryd.prog 74 #[.string s, .int .i64 ((k : Int) + 1)] w fun e w' => e = .returned (.int .i32 ((hdB s.data.toList (k + 1)).toNat : Int)) ∧ w = w' := at_hd s (k + 1) w hs hk
def QRel (s : ByteArray) (t : List UInt8) (i m : Nat) (acc : List UInt8) : Prop := qs t = (acc ++ (qs (s.data.toList.drop m)).1, m - (i + 1) + (qs (s.data.toList.drop m)).2.1, (qs (s.data.toList.drop m)).2.2)
theorem QRel.pl {s : ByteArray} {t acc u : List UInt8} {i m : Nat} {c : UInt8} (h : QRel s t i m acc) (hm : i + 1 ≤ m) (hd : s.data.toList.drop m = c :: u) (hu : s.data.toList.drop (m + 1) = u) (hc : lxPl c = true) : QRel s t i (m + 1) (acc ++ [c]) := by
  unfold QRel at *
  rw [hd, qs_pl hc] at h
  rw [h, hu, List.append_assoc]
  refine Prod.ext rfl (Prod.ext ?_ rfl)
  simp only; omega
theorem QRel.two {s : ByteArray} {t acc u : List UInt8} {i m : Nat} {c d : UInt8} (h : QRel s t i m acc) (hm : i + 1 ≤ m) (hd : s.data.toList.drop m = c :: u) (hu : s.data.toList.drop (m + 1) = d :: s.data.toList.drop (m + 1 + 1)) (hu2 : s.data.toList.drop (m + 1) = u) (hc : (c == 92) = true) (he : (d == 34 || d == 92) = true) : QRel s t i (m + 1 + 1) (acc ++ [d]) := by
  unfold QRel at *
  have e : c = 92 := by simpa using hc
  subst e
  rw [hd, ← hu2, hu, qs_two he] at h
  rw [h, List.append_assoc]
  refine Prod.ext rfl (Prod.ext ?_ rfl)
  simp only; omega
theorem QRel.n {s : ByteArray} {t acc u : List UInt8} {i m : Nat} {c d : UInt8} (h : QRel s t i m acc) (hm : i + 1 ≤ m) (hd : s.data.toList.drop m = c :: u) (hu : s.data.toList.drop (m + 1) = d :: s.data.toList.drop (m + 1 + 1)) (hu2 : s.data.toList.drop (m + 1) = u) (hc : (c == 92) = true) (he : (d == 110) = true) : QRel s t i (m + 1 + 1) (acc ++ [10]) := by
  unfold QRel at *
  have e : c = 92 := by simpa using hc
  have e2 : d = 110 := by simpa using he
  subst e e2
  rw [hd, ← hu2, hu, qs_n] at h
  rw [h, List.append_assoc]
  refine Prod.ext rfl (Prod.ext ?_ rfl)
  simp only; omega
def lx0 : Array Value := #[.int .i64 0, .string ⟨#[]⟩, .int .i64 0, .int .i64 0]
set_option maxRecDepth 100000 in
set_option maxHeartbeats 8000000 in
theorem quoted_any (s : ByteArray) (i : Nat) (c0 : UInt8) (t : List UInt8) (w : World) (hs : s.size ≤ 4611686018427387) (hd : s.data.toList.drop i = c0 :: t) (hz : s.size ≤ 140737488355000) (hl : lxLet c0 = false) (hg : isDig c0 = false) (h34 : (c0 == 34) = true) :
    Calls Tryd.prog 79 #[.string s, .int .i64 (i : Int)] w (Ret (oneV (lxOne (c0 :: t)) i) w) := by
  have hi : i < s.size := by
    have := congrArg List.length hd
    rw [List.length_drop, size_list, List.length_cons] at this; omega
  have ht : s.data.toList.drop (i + 1) = t := by
    have := congrArg (List.drop 1) hd
    rw [List.drop_drop] at this; exact this
  have HO : Hid (lxOne (c0 :: t) = if (qs t).2.2 then (3, (qs t).1, 0, (qs t).2.1 + 1, 0) else (0, [], 0, (qs t).2.1 + 1, 5)) := by
    show _ = _; rw [lxOne, if_neg (by rw [hl]; simp), if_neg (by rw [hg]; simp), if_pos h34]
  have HQ0 : Hid (QRel s t i (i + 1) []) := by
    show QRel _ _ _ _ _
    unfold QRel
    rw [ht]; simp
  clear hd ht hl hg h34
  go_enter Tryd.func79, Tryd.ntmps79
  go_wp2
  go_loopw [8] (fun e wr => ∃ (m : Nat) (acc : List UInt8), m ≤ s.size ∧ i + 1 ≤ m ∧ e = .int .i64 m ∧ Hid (QRel s t i m acc) ∧ acc.length ≤ m ∧ Bl (w.heap.size + 1) (w.heap.size + 1) acc wr ∧ Blk wr w.heap.size 90 lx0 ∧ Below w.heap.size w wr ∧ w.heap.size + 1 < wr.heap.size) (fun e _ => s.size - (intOf e).toNat)
  case atStart =>
    refine ⟨i + 1, [], by omega, Nat.le_refl _, rfl, HQ0, by simp, ?_, ?_, ((Below.refl _ _).alloc (Nat.le_refl _) _).alloc (by simp) _, by simp⟩
    · have := bl_fresh (w.alloc (.cells lx0 90))
      rw [show (w.alloc (.cells lx0 90)).heap.size = w.heap.size + 1 from by simp] at this
      exact this
    · exact (Blk.new w 90 lx0).alloc _
  case round =>
    obtain ⟨m, acc, hm, him, rfl, hQ, hal, hbl, hblk, hbw, hsz⟩ := hrel
    by_cases hlt : m < s.size
    · obtain ⟨c, u, hd, hc, hd2⟩ := drop_at (D := s.data.toList) (k := m) (by rw [size_list]; exact hlt)
      have CA := Lib.hid (fun w => at_lt s m c w (by omega) hc)
      have CB := Lib.hid (fun w => at_hd1 s m w (by omega) (by omega))
      obtain ⟨d, hdm⟩ : ∃ d, hdB s.data.toList (m + 1) = d := ⟨_, rfl⟩
      rw [hdm] at CB
      have hud : u.headD 0 = d := by rw [← hdm]; exact (hdB_of hd2).symm
      have HD := Lib.hid hd
      have HD2 := Lib.hid hd2
      have HDM := Lib.hid hdm
      have HUD := Lib.hid hud
      have k0 : wr.cell? ⟨w.heap.size, 0, none⟩ = some (.int .i64 0) := hblk.cell 0
      have k1 : wr.cell? ⟨w.heap.size, 1, none⟩ = some (.string ⟨#[]⟩) := hblk.cell 1
      have k2 : wr.cell? ⟨w.heap.size, 2, none⟩ = some (.int .i64 0) := hblk.cell 2
      have k3 : wr.cell? ⟨w.heap.size, 3, none⟩ = some (.int .i64 0) := hblk.cell 3
      have hblk2 := hblk
      have f0 := hblk.free 0
      have f1 := hblk.free 1
      have f2 := hblk.free 2
      have f3 := hblk.free 3
      clear hd hd2 hdm hud hc
      by_cases h34 : (c == 34) = true
      · have e34 : ((c.toNat : Int) == 34) = true := u8yes (k := 34) (by decide) h34
        have HR : Hid (oneV (lxOne (c0 :: t)) i = .tuple #[.agg #[.int .i64 3, .string ⟨acc.toArray⟩, .int .i64 0, .int .i64 i], .int .i64 ((m : Int) + 1), .int .i64 0]) := by
          have hq := hQ.out
          unfold QRel at hq
          have ec : c = 34 := by simpa using h34
          rw [HD.out, ec, qs_quote] at hq
          show _ = _; rw [HO.out, hq]; simp [oneV, oneX, lxV]; omega
        clear h34 hQ k0 k1 k2 k3 f0 f1 f2 f3
        go_wp2_with (first | (go_at_call 92; refine (plain_any c _).mono ?_; rintro e w' ⟨rfl, rfl⟩) | (go_at_call 74; (first | ((with_reducible refine (CA.out _).mono ?_); rintro e w' ⟨rfl, rfl⟩) | ((with_reducible refine (CB.out _).mono ?_); rintro e w' ⟨rfl, rfl⟩))))
        refine (Tryd.Builder_String_any_k (w.heap.size + 1) (w.heap.size + 1) acc _ hbl (by omega)).mono ?_
        rintro e w2 ⟨rfl, _, hb2, _⟩
        have hblk2 := hblk.below hb2 (by omega)
        have hsz2 := hb2.size
        have k0 : w2.cell? ⟨w.heap.size, 0, none⟩ = some (.int .i64 0) := hblk2.cell 0
        have k1 : w2.cell? ⟨w.heap.size, 1, none⟩ = some (.string ⟨#[]⟩) := hblk2.cell 1
        have k2 : w2.cell? ⟨w.heap.size, 2, none⟩ = some (.int .i64 0) := hblk2.cell 2
        have k3 : w2.cell? ⟨w.heap.size, 3, none⟩ = some (.int .i64 0) := hblk2.cell 3
        have f0 := hblk2.free 0
        have f1 := hblk2.free 1
        have f2 := hblk2.free 2
        have f3 := hblk2.free 3
        go_wp2_with fail
        rw [HR.out]
        exact bodyPost_ret (v := .tuple #[.agg #[.int .i64 3, .string ⟨acc.toArray⟩, .int .i64 0, .int .i64 i], .int .i64 ((m : Int) + 1), .int .i64 0]) (by simp [results, Tryd.results79, go_sem, k0, k1, k2, k3]) rfl ⟨rfl, ((((hbw.trans ((show Below (w.heap.size + 1) wr w2 from hb2).mono (by omega))).setCell (by simp) _).setCell (by simp) _).setCell (by simp) _).setCell (by simp) _⟩
      have h34' : (c == 34) = false := by simpa using h34
      have e34 : ((c.toNat : Int) == 34) = false := u8ne (k := 34) (by decide) h34'
      by_cases hp : lxPl c = true
      · have HQ := Lib.hid (hQ.out.pl him HD.out HD2.out hp)
        have hc128 : c.toNat < 128 := by
          simp only [lxPl, Bool.and_eq_true, decide_eq_true_eq] at hp
          have := hp.1.1.2; omega
        clear h34 h34' hQ k0 k1 k2 k3 f0 f1 f2 f3 hblk2 HD HD2 HDM HUD
        go_wp2_with (first | (go_at_call 92; refine (plain_any c _).mono ?_; rintro e w' ⟨rfl, rfl⟩) | (go_at_call 74; (first | ((with_reducible refine (CA.out _).mono ?_); rintro e w' ⟨rfl, rfl⟩) | ((with_reducible refine (CB.out _).mono ?_); rintro e w' ⟨rfl, rfl⟩))))
        refine (bld_rune (w.heap.size + 1) (w.heap.size + 1) acc c _ hc128 hbl (by omega) (by omega)).mono ?_
        rintro e w2 ⟨rfl, hbl2, hb2⟩
        have hblk2 := hblk.below hb2 (by omega)
        have hsz2 := hb2.size
        go_wp2_with fail
        go_roundw
        case rel => exact ⟨m + 1, acc ++ [c], by omega, by omega, by go_num, HQ, by simp; omega, hbl2, hblk2, hbw.trans ((show Below (w.heap.size + 1) wr w2 from hb2).mono (by omega)), by omega⟩
        case measure => simp [intOf] <;> omega
      have hp' : lxPl c = false := by simpa using hp
      by_cases h92 : (c == 92) = true
      · have e92 : ((c.toNat : Int) == 92) = true := u8yes (k := 92) (by decide) h92
        have hlt1 : d ≠ 0 → m + 1 < s.size := fun h => by
          rcases Nat.lt_or_ge (m + 1) s.size with h2 | h2
          · exact h2
          · have := HDM.out
            rw [hdB_end (by rw [size_list]; exact h2)] at this
            exact absurd this.symm h
        by_cases g34 : (d == 34) = true
        · have ed : ((d.toNat : Int) == 34) = true := u8yes (k := 34) (by decide) g34
          have hd0 : d = 34 := by simpa using g34
          have hm1 := hlt1 (by rw [hd0]; decide)
          have HQ := Lib.hid (hQ.out.two him HD.out (drop_hd HDM.out (by rw [hd0]; decide)) HD2.out h92 (by rw [g34]; rfl))
          have hdn : d.toNat < 128 := by rw [hd0]; decide
          clear h34 h34' hQ k0 k1 k2 k3 f0 f1 f2 f3 hblk2 HD HD2 HDM HUD hp hlt1 g34 hd0 h92
          go_wp2_with (first | (go_at_call 92; refine (plain_any c _).mono ?_; rintro e w' ⟨rfl, rfl⟩) | (go_at_call 74; (first | ((with_reducible refine (CA.out _).mono ?_); rintro e w' ⟨rfl, rfl⟩) | ((with_reducible refine (CB.out _).mono ?_); rintro e w' ⟨rfl, rfl⟩))))
          refine (bld_rune (w.heap.size + 1) (w.heap.size + 1) acc d _ (by exact hdn) hbl (by omega) (by omega)).mono ?_
          rintro e w2 ⟨rfl, hbl2, hb2⟩
          have hblk2 := hblk.below hb2 (by omega)
          have hsz2 := hb2.size
          go_wp2_with fail
          go_roundw
          case rel => exact ⟨m + 1 + 1, acc ++ [d], by omega, by omega, by go_num, HQ, by simp; omega, hbl2, hblk2, hbw.trans ((show Below (w.heap.size + 1) wr w2 from hb2).mono (by omega)), by omega⟩
          case measure => simp [intOf] <;> omega
        have e34d : ((d.toNat : Int) == 34) = false := u8ne (k := 34) (by decide) (by simpa using g34)
        by_cases g92 : (d == 92) = true
        · have ed : ((d.toNat : Int) == 92) = true := u8yes (k := 92) (by decide) g92
          have hd0 : d = 92 := by simpa using g92
          have hm1 := hlt1 (by rw [hd0]; decide)
          have HQ := Lib.hid (hQ.out.two him HD.out (drop_hd HDM.out (by rw [hd0]; decide)) HD2.out h92 (by rw [g92]; simp))
          have hdn : d.toNat < 128 := by rw [hd0]; decide
          clear h34 h34' hQ k0 k1 k2 k3 f0 f1 f2 f3 hblk2 HD HD2 HDM HUD hp hlt1 g92 g34 hd0 h92
          go_wp2_with (first | (go_at_call 92; refine (plain_any c _).mono ?_; rintro e w' ⟨rfl, rfl⟩) | (go_at_call 74; (first | ((with_reducible refine (CA.out _).mono ?_); rintro e w' ⟨rfl, rfl⟩) | ((with_reducible refine (CB.out _).mono ?_); rintro e w' ⟨rfl, rfl⟩))))
          refine (bld_rune (w.heap.size + 1) (w.heap.size + 1) acc d _ (by exact hdn) hbl (by omega) (by omega)).mono ?_
          rintro e w2 ⟨rfl, hbl2, hb2⟩
          have hblk2 := hblk.below hb2 (by omega)
          have hsz2 := hb2.size
          go_wp2_with fail
          go_roundw
          case rel => exact ⟨m + 1 + 1, acc ++ [d], by omega, by omega, by go_num, HQ, by simp; omega, hbl2, hblk2, hbw.trans ((show Below (w.heap.size + 1) wr w2 from hb2).mono (by omega)), by omega⟩
          case measure => simp [intOf] <;> omega
        have e92d : ((d.toNat : Int) == 92) = false := u8ne (k := 92) (by decide) (by simpa using g92)
        by_cases g110 : (d == 110) = true
        · have ed : ((d.toNat : Int) == 110) = true := u8yes (k := 110) (by decide) g110
          have hd0 : d = 110 := by simpa using g110
          have hm1 := hlt1 (by rw [hd0]; decide)
          have HQ := Lib.hid (hQ.out.n him HD.out (drop_hd HDM.out (by rw [hd0]; decide)) HD2.out h92 (by rw [g110]))
          clear h34 h34' hQ k0 k1 k2 k3 f0 f1 f2 f3 hblk2 HD HD2 HDM HUD hp hlt1 g110 g92 g34 hd0 h92
          go_wp2_with (first | (go_at_call 92; refine (plain_any c _).mono ?_; rintro e w' ⟨rfl, rfl⟩) | (go_at_call 74; (first | ((with_reducible refine (CA.out _).mono ?_); rintro e w' ⟨rfl, rfl⟩) | ((with_reducible refine (CB.out _).mono ?_); rintro e w' ⟨rfl, rfl⟩))))
          refine (bld_rune (w.heap.size + 1) (w.heap.size + 1) acc 10 _ (by decide) hbl (by omega) (by omega)).mono ?_
          rintro e w2 ⟨rfl, hbl2, hb2⟩
          have hblk2 := hblk.below hb2 (by omega)
          have hsz2 := hb2.size
          go_wp2_with fail
          go_roundw
          case rel => exact ⟨m + 1 + 1, acc ++ [10], by omega, by omega, by go_num, HQ, by simp; omega, hbl2, hblk2, hbw.trans ((show Below (w.heap.size + 1) wr w2 from hb2).mono (by omega)), by omega⟩
          case measure => simp [intOf] <;> omega
        have e110d : ((d.toNat : Int) == 110) = false := u8ne (k := 110) (by decide) (by simpa using g110)
        have hbad := qs_bad (u := u) h34' hp' (.inr ⟨by rw [HUD.out]; simpa using g34, by rw [HUD.out]; simpa using g92, by rw [HUD.out]; simpa using g110⟩)
        have HR : Hid (oneV (lxOne (c0 :: t)) i = .tuple #[.agg #[.int .i64 0, .string ⟨#[]⟩, .int .i64 0, .int .i64 0], .int .i64 (m : Int), .int .i64 5]) := by
          have hq := hQ.out
          unfold QRel at hq
          rw [HD.out, hbad] at hq
          show _ = _; rw [HO.out, hq]; simp [oneV, oneX, lxV]; omega
        clear h34 h34' hQ HD HD2 HDM HUD hp hlt1 g34 g92 g110 h92 hbad
        go_wp2_with (first | (go_at_call 92; refine (plain_any c _).mono ?_; rintro e w' ⟨rfl, rfl⟩) | (go_at_call 74; (first | ((with_reducible refine (CA.out _).mono ?_); rintro e w' ⟨rfl, rfl⟩) | ((with_reducible refine (CB.out _).mono ?_); rintro e w' ⟨rfl, rfl⟩))))
        rw [HR.out]
        exact bodyPost_ret (v := .tuple #[.agg #[.int .i64 0, .string ⟨#[]⟩, .int .i64 0, .int .i64 0], .int .i64 (m : Int), .int .i64 5]) (by simp [results, Tryd.results79, go_sem, k0, k1, k2, k3]) rfl ⟨rfl, (((hbw.setCell (by simp) _).setCell (by simp) _).setCell (by simp) _).setCell (by simp) _⟩
      · have e92 : ((c.toNat : Int) == 92) = false := u8ne (k := 92) (by decide) (by simpa using h92)
        have hbad := qs_bad (u := u) h34' hp' (.inl (by simpa using h92))
        have HR : Hid (oneV (lxOne (c0 :: t)) i = .tuple #[.agg #[.int .i64 0, .string ⟨#[]⟩, .int .i64 0, .int .i64 0], .int .i64 (m : Int), .int .i64 5]) := by
          have hq := hQ.out
          unfold QRel at hq
          rw [HD.out, hbad] at hq
          show _ = _; rw [HO.out, hq]; simp [oneV, oneX, lxV]; omega
        clear h34 h34' hQ HD HD2 HDM HUD hp h92 hbad
        go_wp2_with (first | (go_at_call 92; refine (plain_any c _).mono ?_; rintro e w' ⟨rfl, rfl⟩) | (go_at_call 74; (first | ((with_reducible refine (CA.out _).mono ?_); rintro e w' ⟨rfl, rfl⟩) | ((with_reducible refine (CB.out _).mono ?_); rintro e w' ⟨rfl, rfl⟩))))
        rw [HR.out]
        exact bodyPost_ret (v := .tuple #[.agg #[.int .i64 0, .string ⟨#[]⟩, .int .i64 0, .int .i64 0], .int .i64 (m : Int), .int .i64 5]) (by simp [results, Tryd.results79, go_sem, k0, k1, k2, k3]) rfl ⟨rfl, (((hbw.setCell (by simp) _).setCell (by simp) _).setCell (by simp) _).setCell (by simp) _⟩
    · obtain rfl : m = s.size := by omega
      have k0 : wr.cell? ⟨w.heap.size, 0, none⟩ = some (.int .i64 0) := hblk.cell 0
      have k1 : wr.cell? ⟨w.heap.size, 1, none⟩ = some (.string ⟨#[]⟩) := hblk.cell 1
      have k2 : wr.cell? ⟨w.heap.size, 2, none⟩ = some (.int .i64 0) := hblk.cell 2
      have k3 : wr.cell? ⟨w.heap.size, 3, none⟩ = some (.int .i64 0) := hblk.cell 3
      have f0 := hblk.free 0
      have f1 := hblk.free 1
      have f2 := hblk.free 2
      have f3 := hblk.free 3
      have HR : Hid (oneV (lxOne (c0 :: t)) i = .tuple #[.agg #[.int .i64 0, .string ⟨#[]⟩, .int .i64 0, .int .i64 0], .int .i64 (s.size : Int), .int .i64 5]) := by
        have hq := hQ.out
        unfold QRel at hq
        rw [List.drop_of_length_le (by rw [size_list]; omega), qs] at hq
        show _ = _; rw [HO.out, hq]; simp [oneV, oneX, lxV]; omega
      clear hQ
      go_wp2_with fail
      rw [HR.out]
      exact bodyPost_ret (v := .tuple #[.agg #[.int .i64 0, .string ⟨#[]⟩, .int .i64 0, .int .i64 0], .int .i64 (s.size : Int), .int .i64 5]) (by simp [results, Tryd.results79, go_sem, k0, k1, k2, k3]) rfl ⟨rfl, (((hbw.setCell (by simp) _).setCell (by simp) _).setCell (by simp) _).setCell (by simp) _⟩
end Go.Proofs.YthfnncnmggkfaaaDoor

namespace Go.Proofs.YthfnncnmggkfaaaDoor
open Go Go.RowKit

/-- blocks of other types than a builder's stay as they are. -/
def KeepT (w w' : World) : Prop := ∀ (g : Nat) (t : TypeId) (cs : Array Value), Blk w g t cs → t ≠ 5 → t ≠ 67 → Blk w' g t cs
theorem cc_any_k (B b : Nat) (bs : List Value) (w : World) (h : Lib.IsBuilderF 67 5 B b bs w) :
    Calls Tryd.prog 54 #[.pointer (some ⟨b, 0, none⟩)] w fun e w' => e = .returned (.tuple #[]) ∧ BlU B b bs w' ∧ Below B w w' ∧ KeepT w w' := by
  rcases h with h | h
  · refine (cc_fresh b w h.cell0 h.shape h.frozen0).mono ?_
    rintro e w' ⟨rfl, rfl⟩
    refine ⟨rfl, h.used _, (Below.refl B w).setCell (p := ⟨b, 0, none⟩) h.1 _, fun g t cs hg _ ht => ?_⟩
    have hgb : g ≠ b := fun e => by
      obtain ⟨_, v, hv, _⟩ := h
      unfold Blk at hg
      rw [e, hv] at hg
      injection hg with hg
      injection hg with _ hg
      exact ht hg.symm
    exact hg.far hgb _
  · refine (cc_used b w h.cell0).mono ?_
    rintro e w' ⟨rfl, rfl⟩
    exact ⟨rfl, h, Below.refl B _, fun _ _ _ hg _ _ => hg⟩
def BlWK (B b : Nat) (l : List UInt8) (r : Value) (w : World) (e : Ending) (w' : World) : Prop := e = .returned r ∧ Bl B b l w' ∧ Below B w w' ∧ KeepT w w'
set_option maxHeartbeats 2000000 in
set_option maxRecDepth 100000 in
theorem bld_str_k (B b : Nat) (l : List UInt8) (s : ByteArray) (w : World) (h : Bl B b l w) (hlen : l.length + s.size ≤ 140737488355328) (hBw : B ≤ w.heap.size) :
    Calls Tryd.prog 33 #[.pointer (some ⟨b, 0, none⟩), .string s] w (BlWK B b (l ++ s.data.toList) (.tuple #[.int .i64 (s.size : Int), .nilIface]) w) := by
  obtain ⟨i0, hi, hz0, hz1, hz2⟩ := info_parts byte_info
  have hlb := Lib.byteCells_length l
  have hres : Lib.byteCells l ++ Lib.strCells s = Lib.byteCells (l ++ s.data.toList) := by rw [Lib.byteCells_append]; rfl
  generalize hbs : Lib.byteCells l = bs at *
  have HB := Lib.hid hbs
  have HL := Lib.hid hlb
  have HR := Lib.hid hres
  have hlen' : bs.length + s.size ≤ 140737488355328 := by omega
  clear hbs hlb hres
  unfold Bl at h
  rw [HB.out] at h
  go_enter Tryd.func33, Tryd.ntmps33
  go_wp2_with (go_at_call 54; refine (cc_any_k B b bs _ h).mono ?_)
  rintro e w1 ⟨rfl, h1, hb1, hk1⟩
  obtain ⟨hB, v, hbk, hown, hne⟩ := h1
  have c0 : w1.cell? ⟨b, 0, none⟩ = some (.pointer (some ⟨b, 0, none⟩)) := by rw [Lib.cell_of_heap hbk]; rfl
  have c1 : w1.cell? ⟨b, 1, none⟩ = some v := by rw [Lib.cell_of_heap hbk]; rfl
  go_wp2_with (at_builtin; refine Lib.wpList_append_own_stringF _ rfl _ _ 65 9 rfl B 5 i0 Tryd.underlying65 Tryd.underlying9 hi hz0 hz1 hz2 _ _ _ rfl hown s rfl (by unfold maxLen; omega) (by omega) (by have := hb1.size; omega) ?_)
  intro v' w2 hown' hgrow _
  have hlt : b < w1.heap.size := by
    rcases Nat.lt_or_ge b w1.heap.size with h' | h'
    · exact h'
    · simp [Array.getElem?_eq_none h'] at hbk
  have hb2 : w2.heap[b]? = some (.cells #[.pointer (some ⟨b, 0, none⟩), v] 67 (0, 0)) := by
    rw [hgrow.block b hlt (fun e => hne e.symm)]
    exact hbk
  have d0 : w2.cell? ⟨b, 0, none⟩ = some (.pointer (some ⟨b, 0, none⟩)) := by rw [Lib.cell_of_heap hb2]; rfl
  have d1 : w2.cell? ⟨b, 1, none⟩ = some v := by rw [Lib.cell_of_heap hb2]; rfl
  have f1 : w2.frozen? ⟨b, 1, none⟩ = false := Lib.frozen_of_heap hb2 1
  obtain ⟨ao, n', cap, rfl⟩ : ∃ ao n' cap, v' = .slice ao n' cap := by
    rcases hown'.2 with ⟨hv, _⟩ | ⟨g, cap, cur, fz, hv, _⟩
    · exact ⟨_, _, _, hv⟩
    · exact ⟨_, _, _, hv⟩
  go_wp2
  go_ret2
  refine ⟨rfl, ?_, ?_, fun g t cs hg ht1 ht2 => ?_⟩
  · refine BlU.bl ?_
    rw [← HR.out]
    exact Lib.BuilderAtF.put (T := 67) (e := 5) hB hb2 (bs' := bs ++ Lib.strCells s) (by simpa [Lib.strCells_length] using hown') (by decide)
  · exact (hb1.grown hgrow (by have := hb1.size; omega) (fun k hk => (hown.lt k hk).1)).setCell (p := ⟨b, 1, none⟩) hB _
  · have hg1 := hk1 g t cs hg ht1 ht2
    have hgb : g ≠ b := fun e => by
      unfold Blk at hg1
      rw [e, hbk] at hg1
      injection hg1 with hg1
      injection hg1 with _ hg1
      exact ht2 hg1.symm
    have hg2 : Blk w2 g t cs := by
      refine hg1.grown hgrow (fun e => ?_)
      rcases hown.2 with ⟨rfl, _⟩ | ⟨g', cap', cur, fz, rfl, _, hgg, _⟩
      · cases e
      · have e : some g = some g' := e
        injection e with e
        unfold Blk at hg1
        rw [e, hgg] at hg1
        injection hg1 with hg1
        injection hg1 with _ hg1
        exact ht1 hg1.symm
    exact hg2.far hgb _
end Go.Proofs.YthfnncnmggkfaaaDoor

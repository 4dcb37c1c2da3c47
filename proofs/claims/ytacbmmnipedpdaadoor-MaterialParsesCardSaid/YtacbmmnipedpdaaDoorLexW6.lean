/- Chapter 07: quoted of the program, by walking its text. -/
import Derived.Test.YtacbmmnipedpdaaDoorLexW5
import Derived.Test.YtacbmmnipedpdaaDoorBld
namespace Go.Proofs.YtacbmmnipedpdaaDoor
open Go Go.RowKit

theorem qs_bad {c : UInt8} {u : List UInt8} (h1 : (c == 34) = false) (h2 : lxPl c = false) (h3 : (c == 92) = false ∨ ((u.headD 0 == 34) = false ∧ (u.headD 0 == 92) = false ∧ (u.headD 0 == 110) = false)) : qs (c :: u) = ([], 0, false) := by
  cases u with
  | nil => rw [qs, if_neg (by rw [h1]; simp), if_neg (by rw [h2]; simp)]
  | cons d u =>
    have g1 : (c == 92 && (d == 34 || d == 92)) = false := by
      rcases h3 with h | ⟨h, h', _⟩
      · rw [h]; rfl
      · have a : (d == 34) = false := h
        have b : (d == 92) = false := h'
        rw [a, b]; simp
    have g2 : (c == 92 && d == 110) = false := by
      rcases h3 with h | ⟨_, _, h⟩
      · rw [h]; rfl
      · have a : (d == 110) = false := h
        rw [a]; simp
    rw [qs, if_neg (by rw [h1]; simp), if_neg (by rw [h2]; simp), if_neg (by rw [g1]; simp), if_neg (by rw [g2]; simp)]
theorem hdB_of {D : List UInt8} {k : Nat} {u : List UInt8} (h : D.drop k = u) : hdB D k = u.headD 0 := by unfold hdB; rw [h]
theorem drop_hd {D : List UInt8} {k : Nat} {d : UInt8} (h : hdB D k = d) (hd : d ≠ 0) : D.drop k = d :: D.drop (k + 1) := by
  rcases Nat.lt_or_ge k D.length with h2 | h2
  · obtain ⟨c, t, e1, e2, e3⟩ := drop_at h2
    rw [hdB_lt e2] at h
    rw [e1, e3, h]
  · rw [hdB_end h2] at h; exact absurd h.symm hd
theorem at_hd1 (s : ByteArray) (k : Nat) (w : World) (hs : s.size ≤ 4611686018427387904) (hk : k + 1 ≤ 9223372036854775807) :
    Calls Tryd.prog 72 #[.string s, .int .i64 ((k : Int) + 1)] w fun e w' => e = .returned (.int .i32 ((hdB s.data.toList (k + 1)).toNat : Int)) ∧ w = w' := at_hd s (k + 1) w hs hk
def QRel (s : ByteArray) (t : List UInt8) (i m : Nat) (acc : List UInt8) : Prop := qs t = (acc ++ (qs (s.data.toList.drop m)).1, m - (i + 1) + (qs (s.data.toList.drop m)).2.1, (qs (s.data.toList.drop m)).2.2)
theorem QRel.pl {s : ByteArray} {t acc u : List UInt8} {i m : Nat} {c : UInt8} (h : QRel s t i m acc) (hm : i + 1 ≤ m) (hd : s.data.toList.drop m = c :: u) (hu : s.data.toList.drop (m + 1) = u) (hc : lxPl c = true) : QRel s t i (m + 1) (acc ++ [c]) := by
  unfold QRel at *
  rw [hd, qs_pl hc] at h
  rw [h, hu, List.append_assoc]
  refine Prod.ext rfl (Prod.ext ?_ rfl)
  simp only; omega
theorem QRel.two {s : ByteArray} {t acc u : List UInt8} {i m : Nat} {c d : UInt8} (h : QRel s t i m acc) (hm : i + 1 ≤ m) (hd : s.data.toList.drop m = c :: u) (hu : s.data.toList.drop (m + 1) = d :: s.data.toList.drop (m + 1 + 1)) (hu2 : s.data.toList.drop (m + 1) = u) (hc : (c == 92) = true) (he : (d == 34 || d == 92) = true) : QRel s t i (m + 1 + 1) (acc ++ [d]) := by
  unfold QRel at *
  have e : c = 92 := by simpa using hc
  subst e
  rw [hd, ← hu2, hu, qs_two he] at h
  rw [h, List.append_assoc]
  refine Prod.ext rfl (Prod.ext ?_ rfl)
  simp only; omega
theorem QRel.n {s : ByteArray} {t acc u : List UInt8} {i m : Nat} {c d : UInt8} (h : QRel s t i m acc) (hm : i + 1 ≤ m) (hd : s.data.toList.drop m = c :: u) (hu : s.data.toList.drop (m + 1) = d :: s.data.toList.drop (m + 1 + 1)) (hu2 : s.data.toList.drop (m + 1) = u) (hc : (c == 92) = true) (he : (d == 110) = true) : QRel s t i (m + 1 + 1) (acc ++ [10]) := by
  unfold QRel at *
  have e : c = 92 := by simpa using hc
  have e2 : d = 110 := by simpa using he
  subst e e2
  rw [hd, ← hu2, hu, qs_n] at h
  rw [h, List.append_assoc]
  refine Prod.ext rfl (Prod.ext ?_ rfl)
  simp only; omega
def lx0 : Array Value := #[.int .i64 0, .string ⟨#[]⟩, .int .i64 0, .int .i64 0]
set_option maxRecDepth 100000 in
set_option maxHeartbeats 8000000 in
theorem quoted_any (s : ByteArray) (i : Nat) (c0 : UInt8) (t : List UInt8) (w : World) (hs : s.size ≤ 4611686018427387) (hd : s.data.toList.drop i = c0 :: t) (hz : s.size ≤ 140737488355000) (hl : lxLet c0 = false) (hg : isDig c0 = false) (h34 : (c0 == 34) = true) :
    Calls Tryd.prog 77 #[.string s, .int .i64 (i : Int)] w (Ret (oneV (lxOne (c0 :: t)) i) w) := by
  have hi : i < s.size := by
    have := congrArg List.length hd
    rw [List.length_drop, size_list, List.length_cons] at this; omega
  have ht : s.data.toList.drop (i + 1) = t := by
    have := congrArg (List.drop 1) hd
    rw [List.drop_drop] at this; exact this
  have HO : Hid (lxOne (c0 :: t) = if (qs t).2.2 then (3, (qs t).1, 0, (qs t).2.1 + 1, 0) else (0, [], 0, (qs t).2.1 + 1, 5)) := by
    show _ = _; rw [lxOne, if_neg (by rw [hl]; simp), if_neg (by rw [hg]; simp), if_pos h34]
  have HQ0 : Hid (QRel s t i (i + 1) []) := by
    show QRel _ _ _ _ _
    unfold QRel
    rw [ht]; simp
  clear hd ht hl hg h34
  go_enter Tryd.func77, Tryd.ntmps77
  go_wp2
  go_loopw [8] (fun e wr => ∃ (m : Nat) (acc : List UInt8), m ≤ s.size ∧ i + 1 ≤ m ∧ e = .int .i64 m ∧ Hid (QRel s t i m acc) ∧ acc.length ≤ m ∧ Bl (w.heap.size + 1) (w.heap.size + 1) acc wr ∧ Blk wr w.heap.size 81 lx0 ∧ Below w.heap.size w wr ∧ w.heap.size + 1 < wr.heap.size) (fun e _ => s.size - (intOf e).toNat)
  case atStart =>
    refine ⟨i + 1, [], by omega, Nat.le_refl _, rfl, HQ0, by simp, ?_, ?_, ((Below.refl _ _).alloc (Nat.le_refl _) _).alloc (by simp) _, by simp⟩
    · have := bl_fresh (w.alloc (.cells lx0 81))
      rw [show (w.alloc (.cells lx0 81)).heap.size = w.heap.size + 1 from by simp] at this
      exact this
    · exact (Blk.new w 81 lx0).alloc _
  case round =>
    obtain ⟨m, acc, hm, him, rfl, hQ, hal, hbl, hblk, hbw, hsz⟩ := hrel
    by_cases hlt : m < s.size
    · obtain ⟨c, u, hd, hc, hd2⟩ := drop_at (D := s.data.toList) (k := m) (by rw [size_list]; exact hlt)
      have CA := Lib.hid (fun w => at_lt s m c w (by omega) hc)
      have CB := Lib.hid (fun w => at_hd1 s m w (by omega) (by omega))
      obtain ⟨d, hdm⟩ : ∃ d, hdB s.data.toList (m + 1) = d := ⟨_, rfl⟩
      rw [hdm] at CB
      have hud : u.headD 0 = d := by rw [← hdm]; exact (hdB_of hd2).symm
      have HD := Lib.hid hd
      have HD2 := Lib.hid hd2
      have HDM := Lib.hid hdm
      have HUD := Lib.hid hud
      have k0 : wr.cell? ⟨w.heap.size, 0, none⟩ = some (.int .i64 0) := hblk.cell 0
      have k1 : wr.cell? ⟨w.heap.size, 1, none⟩ = some (.string ⟨#[]⟩) := hblk.cell 1
      have k2 : wr.cell? ⟨w.heap.size, 2, none⟩ = some (.int .i64 0) := hblk.cell 2
      have k3 : wr.cell? ⟨w.heap.size, 3, none⟩ = some (.int .i64 0) := hblk.cell 3
      have hblk2 := hblk
      have f0 := hblk.free 0
      have f1 := hblk.free 1
      have f2 := hblk.free 2
      have f3 := hblk.free 3
      clear hd hd2 hdm hud hc
      by_cases h34 : (c == 34) = true
      · have e34 : ((c.toNat : Int) == 34) = true := u8yes (k := 34) (by decide) h34
        have HR : Hid (oneV (lxOne (c0 :: t)) i = .tuple #[.agg #[.int .i64 3, .string ⟨acc.toArray⟩, .int .i64 0, .int .i64 i], .int .i64 ((m : Int) + 1), .int .i64 0]) := by
          have hq := hQ.out
          unfold QRel at hq
          have ec : c = 34 := by simpa using h34
          rw [HD.out, ec, qs_quote] at hq
          show _ = _; rw [HO.out, hq]; simp [oneV, oneX, lxV]; omega
        clear h34 hQ k0 k1 k2 k3 f0 f1 f2 f3
        go_wp2_with (first | (go_at_call 90; refine (plain_any c _).mono ?_; rintro e w' ⟨rfl, rfl⟩) | (go_at_call 72; (first | ((with_reducible refine (CA.out _).mono ?_); rintro e w' ⟨rfl, rfl⟩) | ((with_reducible refine (CB.out _).mono ?_); rintro e w' ⟨rfl, rfl⟩))))
        refine (Tryd.Builder_String_any_k (w.heap.size + 1) (w.heap.size + 1) acc _ hbl (by omega)).mono ?_
        rintro e w2 ⟨rfl, _, hb2, _⟩
        have hblk2 := hblk.below hb2 (by omega)
        have hsz2 := hb2.size
        have k0 : w2.cell? ⟨w.heap.size, 0, none⟩ = some (.int .i64 0) := hblk2.cell 0
        have k1 : w2.cell? ⟨w.heap.size, 1, none⟩ = some (.string ⟨#[]⟩) := hblk2.cell 1
        have k2 : w2.cell? ⟨w.heap.size, 2, none⟩ = some (.int .i64 0) := hblk2.cell 2
        have k3 : w2.cell? ⟨w.heap.size, 3, none⟩ = some (.int .i64 0) := hblk2.cell 3
        have f0 := hblk2.free 0
        have f1 := hblk2.free 1
        have f2 := hblk2.free 2
        have f3 := hblk2.free 3
        go_wp2_with fail
        rw [HR.out]
        exact bodyPost_ret (v := .tuple #[.agg #[.int .i64 3, .string ⟨acc.toArray⟩, .int .i64 0, .int .i64 i], .int .i64 ((m : Int) + 1), .int .i64 0]) (by simp [results, Tryd.results77, go_sem, k0, k1, k2, k3]) rfl ⟨rfl, ((((hbw.trans ((show Below (w.heap.size + 1) wr w2 from hb2).mono (by omega))).setCell (by simp) _).setCell (by simp) _).setCell (by simp) _).setCell (by simp) _⟩
      have h34' : (c == 34) = false := by simpa using h34
      have e34 : ((c.toNat : Int) == 34) = false := u8ne (k := 34) (by decide) h34'
      by_cases hp : lxPl c = true
      · have HQ := Lib.hid (hQ.out.pl him HD.out HD2.out hp)
        have hc128 : c.toNat < 128 := by
          simp only [lxPl, Bool.and_eq_true, decide_eq_true_eq] at hp
          have := hp.1.1.2; omega
        clear h34 h34' hQ k0 k1 k2 k3 f0 f1 f2 f3 hblk2 HD HD2 HDM HUD
        go_wp2_with (first | (go_at_call 90; refine (plain_any c _).mono ?_; rintro e w' ⟨rfl, rfl⟩) | (go_at_call 72; (first | ((with_reducible refine (CA.out _).mono ?_); rintro e w' ⟨rfl, rfl⟩) | ((with_reducible refine (CB.out _).mono ?_); rintro e w' ⟨rfl, rfl⟩))))
        refine (bld_rune (w.heap.size + 1) (w.heap.size + 1) acc c _ hc128 hbl (by omega) (by omega)).mono ?_
        rintro e w2 ⟨rfl, hbl2, hb2⟩
        have hblk2 := hblk.below hb2 (by omega)
        have hsz2 := hb2.size
        go_wp2_with fail
        go_roundw
        case rel => exact ⟨m + 1, acc ++ [c], by omega, by omega, by go_num, HQ, by simp; omega, hbl2, hblk2, hbw.trans ((show Below (w.heap.size + 1) wr w2 from hb2).mono (by omega)), by omega⟩
        case measure => simp [intOf] <;> omega
      have hp' : lxPl c = false := by simpa using hp
      by_cases h92 : (c == 92) = true
      · have e92 : ((c.toNat : Int) == 92) = true := u8yes (k := 92) (by decide) h92
        have hlt1 : d ≠ 0 → m + 1 < s.size := fun h => by
          rcases Nat.lt_or_ge (m + 1) s.size with h2 | h2
          · exact h2
          · have := HDM.out
            rw [hdB_end (by rw [size_list]; exact h2)] at this
            exact absurd this.symm h
        by_cases g34 : (d == 34) = true
        · have ed : ((d.toNat : Int) == 34) = true := u8yes (k := 34) (by decide) g34
          have hd0 : d = 34 := by simpa using g34
          have hm1 := hlt1 (by rw [hd0]; decide)
          have HQ := Lib.hid (hQ.out.two him HD.out (drop_hd HDM.out (by rw [hd0]; decide)) HD2.out h92 (by rw [g34]; rfl))
          have hdn : d.toNat < 128 := by rw [hd0]; decide
          clear h34 h34' hQ k0 k1 k2 k3 f0 f1 f2 f3 hblk2 HD HD2 HDM HUD hp hlt1 g34 hd0 h92
          go_wp2_with (first | (go_at_call 90; refine (plain_any c _).mono ?_; rintro e w' ⟨rfl, rfl⟩) | (go_at_call 72; (first | ((with_reducible refine (CA.out _).mono ?_); rintro e w' ⟨rfl, rfl⟩) | ((with_reducible refine (CB.out _).mono ?_); rintro e w' ⟨rfl, rfl⟩))))
          refine (bld_rune (w.heap.size + 1) (w.heap.size + 1) acc d _ (by exact hdn) hbl (by omega) (by omega)).mono ?_
          rintro e w2 ⟨rfl, hbl2, hb2⟩
          have hblk2 := hblk.below hb2 (by omega)
          have hsz2 := hb2.size
          go_wp2_with fail
          go_roundw
          case rel => exact ⟨m + 1 + 1, acc ++ [d], by omega, by omega, by go_num, HQ, by simp; omega, hbl2, hblk2, hbw.trans ((show Below (w.heap.size + 1) wr w2 from hb2).mono (by omega)), by omega⟩
          case measure => simp [intOf] <;> omega
        have e34d : ((d.toNat : Int) == 34) = false := u8ne (k := 34) (by decide) (by simpa using g34)
        by_cases g92 : (d == 92) = true
        · have ed : ((d.toNat : Int) == 92) = true := u8yes (k := 92) (by decide) g92
          have hd0 : d = 92 := by simpa using g92
          have hm1 := hlt1 (by rw [hd0]; decide)
          have HQ := Lib.hid (hQ.out.two him HD.out (drop_hd HDM.out (by rw [hd0]; decide)) HD2.out h92 (by rw [g92]; simp))
          have hdn : d.toNat < 128 := by rw [hd0]; decide
          clear h34 h34' hQ k0 k1 k2 k3 f0 f1 f2 f3 hblk2 HD HD2 HDM HUD hp hlt1 g92 g34 hd0 h92
          go_wp2_with (first | (go_at_call 90; refine (plain_any c _).mono ?_; rintro e w' ⟨rfl, rfl⟩) | (go_at_call 72; (first | ((with_reducible refine (CA.out _).mono ?_); rintro e w' ⟨rfl, rfl⟩) | ((with_reducible refine (CB.out _).mono ?_); rintro e w' ⟨rfl, rfl⟩))))
          refine (bld_rune (w.heap.size + 1) (w.heap.size + 1) acc d _ (by exact hdn) hbl (by omega) (by omega)).mono ?_
          rintro e w2 ⟨rfl, hbl2, hb2⟩
          have hblk2 := hblk.below hb2 (by omega)
          have hsz2 := hb2.size
          go_wp2_with fail
          go_roundw
          case rel => exact ⟨m + 1 + 1, acc ++ [d], by omega, by omega, by go_num, HQ, by simp; omega, hbl2, hblk2, hbw.trans ((show Below (w.heap.size + 1) wr w2 from hb2).mono (by omega)), by omega⟩
          case measure => simp [intOf] <;> omega
        have e92d : ((d.toNat : Int) == 92) = false := u8ne (k := 92) (by decide) (by simpa using g92)
        by_cases g110 : (d == 110) = true
        · have ed : ((d.toNat : Int) == 110) = true := u8yes (k := 110) (by decide) g110
          have hd0 : d = 110 := by simpa using g110
          have hm1 := hlt1 (by rw [hd0]; decide)
          have HQ := Lib.hid (hQ.out.n him HD.out (drop_hd HDM.out (by rw [hd0]; decide)) HD2.out h92 (by rw [g110]))
          clear h34 h34' hQ k0 k1 k2 k3 f0 f1 f2 f3 hblk2 HD HD2 HDM HUD hp hlt1 g110 g92 g34 hd0 h92
          go_wp2_with (first | (go_at_call 90; refine (plain_any c _).mono ?_; rintro e w' ⟨rfl, rfl⟩) | (go_at_call 72; (first | ((with_reducible refine (CA.out _).mono ?_); rintro e w' ⟨rfl, rfl⟩) | ((with_reducible refine (CB.out _).mono ?_); rintro e w' ⟨rfl, rfl⟩))))
          refine (bld_rune (w.heap.size + 1) (w.heap.size + 1) acc 10 _ (by decide) hbl (by omega) (by omega)).mono ?_
          rintro e w2 ⟨rfl, hbl2, hb2⟩
          have hblk2 := hblk.below hb2 (by omega)
          have hsz2 := hb2.size
          go_wp2_with fail
          go_roundw
          case rel => exact ⟨m + 1 + 1, acc ++ [10], by omega, by omega, by go_num, HQ, by simp; omega, hbl2, hblk2, hbw.trans ((show Below (w.heap.size + 1) wr w2 from hb2).mono (by omega)), by omega⟩
          case measure => simp [intOf] <;> omega
        have e110d : ((d.toNat : Int) == 110) = false := u8ne (k := 110) (by decide) (by simpa using g110)
        have hbad := qs_bad (u := u) h34' hp' (.inr ⟨by rw [HUD.out]; simpa using g34, by rw [HUD.out]; simpa using g92, by rw [HUD.out]; simpa using g110⟩)
        have HR : Hid (oneV (lxOne (c0 :: t)) i = .tuple #[.agg #[.int .i64 0, .string ⟨#[]⟩, .int .i64 0, .int .i64 0], .int .i64 (m : Int), .int .i64 5]) := by
          have hq := hQ.out
          unfold QRel at hq
          rw [HD.out, hbad] at hq
          show _ = _; rw [HO.out, hq]; simp [oneV, oneX, lxV]; omega
        clear h34 h34' hQ HD HD2 HDM HUD hp hlt1 g34 g92 g110 h92 hbad
        go_wp2_with (first | (go_at_call 90; refine (plain_any c _).mono ?_; rintro e w' ⟨rfl, rfl⟩) | (go_at_call 72; (first | ((with_reducible refine (CA.out _).mono ?_); rintro e w' ⟨rfl, rfl⟩) | ((with_reducible refine (CB.out _).mono ?_); rintro e w' ⟨rfl, rfl⟩))))
        rw [HR.out]
        exact bodyPost_ret (v := .tuple #[.agg #[.int .i64 0, .string ⟨#[]⟩, .int .i64 0, .int .i64 0], .int .i64 (m : Int), .int .i64 5]) (by simp [results, Tryd.results77, go_sem, k0, k1, k2, k3]) rfl ⟨rfl, (((hbw.setCell (by simp) _).setCell (by simp) _).setCell (by simp) _).setCell (by simp) _⟩
      · have e92 : ((c.toNat : Int) == 92) = false := u8ne (k := 92) (by decide) (by simpa using h92)
        have hbad := qs_bad (u := u) h34' hp' (.inl (by simpa using h92))
        have HR : Hid (oneV (lxOne (c0 :: t)) i = .tuple #[.agg #[.int .i64 0, .string ⟨#[]⟩, .int .i64 0, .int .i64 0], .int .i64 (m : Int), .int .i64 5]) := by
          have hq := hQ.out
          unfold QRel at hq
          rw [HD.out, hbad] at hq
          show _ = _; rw [HO.out, hq]; simp [oneV, oneX, lxV]; omega
        clear h34 h34' hQ HD HD2 HDM HUD hp h92 hbad
        go_wp2_with (first | (go_at_call 90; refine (plain_any c _).mono ?_; rintro e w' ⟨rfl, rfl⟩) | (go_at_call 72; (first | ((with_reducible refine (CA.out _).mono ?_); rintro e w' ⟨rfl, rfl⟩) | ((with_reducible refine (CB.out _).mono ?_); rintro e w' ⟨rfl, rfl⟩))))
        rw [HR.out]
        exact bodyPost_ret (v := .tuple #[.agg #[.int .i64 0, .string ⟨#[]⟩, .int .i64 0, .int .i64 0], .int .i64 (m : Int), .int .i64 5]) (by simp [results, Tryd.results77, go_sem, k0, k1, k2, k3]) rfl ⟨rfl, (((hbw.setCell (by simp) _).setCell (by simp) _).setCell (by simp) _).setCell (by simp) _⟩
    · obtain rfl : m = s.size := by omega
      have k0 : wr.cell? ⟨w.heap.size, 0, none⟩ = some (.int .i64 0) := hblk.cell 0
      have k1 : wr.cell? ⟨w.heap.size, 1, none⟩ = some (.string ⟨#[]⟩) := hblk.cell 1
      have k2 : wr.cell? ⟨w.heap.size, 2, none⟩ = some (.int .i64 0) := hblk.cell 2
      have k3 : wr.cell? ⟨w.heap.size, 3, none⟩ = some (.int .i64 0) := hblk.cell 3
      have f0 := hblk.free 0
      have f1 := hblk.free 1
      have f2 := hblk.free 2
      have f3 := hblk.free 3
      have HR : Hid (oneV (lxOne (c0 :: t)) i = .tuple #[.agg #[.int .i64 0, .string ⟨#[]⟩, .int .i64 0, .int .i64 0], .int .i64 (s.size : Int), .int .i64 5]) := by
        have hq := hQ.out
        unfold QRel at hq
        rw [List.drop_of_length_le (by rw [size_list]; omega), qs] at hq
        show _ = _; rw [HO.out, hq]; simp [oneV, oneX, lxV]; omega
      clear hQ
      go_wp2_with fail
      rw [HR.out]
      exact bodyPost_ret (v := .tuple #[.agg #[.int .i64 0, .string ⟨#[]⟩, .int .i64 0, .int .i64 0], .int .i64 (s.size : Int), .int .i64 5]) (by simp [results, Tryd.results77, go_sem, k0, k1, k2, k3]) rfl ⟨rfl, (((hbw.setCell (by simp) _).setCell (by simp) _).setCell (by simp) _).setCell (by simp) _⟩
end Go.Proofs.YtacbmmnipedpdaaDoor

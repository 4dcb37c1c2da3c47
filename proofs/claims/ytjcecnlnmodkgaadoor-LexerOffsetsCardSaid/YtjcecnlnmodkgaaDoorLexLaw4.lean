/- Chapter 07: the law LexerOffsets, by walking its text. -/
import Derived.Test.YtjcecnlnmodkgaaDoorLexLaw3
namespace Go.Proofs.YtjcecnlnmodkgaaDoor
open Go Go.RowKit Go.ChangeShapes

theorem offs_at {s : ByteArray} {l : List Lx} (h : Lexes 0 s.data.toList l) {k : Nat} {x : Lx} (hx : l[k]? = some x) :
    ∃ a : Nat, x.2.2.2 = (a : Int) ∧ a ≤ s.size ∧ (x.1 = 3 → s.data.toList[a]? = some 34) ∧ (x.1 ≠ 3 → (s.data.toList.drop a).take x.2.1.length = x.2.1 ∧ x.2.1.length ≤ s.size - a) ∧ (x.1 = 0 ↔ k + 1 = l.length) ∧ (k + 1 = l.length → a = s.size) ∧ (∀ y, l[k + 1]? = some y → (a : Int) < y.2.2.2) := by
  obtain ⟨a, ⟨h1, h2, h3, h4⟩, _, h5, h6, h7⟩ := offs_plain h 0 rfl (by rw [List.drop_zero]) (Nat.zero_le _) k x hx
  rw [size_list] at h2 h4 h6
  exact ⟨a, h1, h2, h3, h4, h5, h6, h7⟩
theorem offs_zero {s : ByteArray} {l : List Lx} (h : Lexes 0 s.data.toList l) {x : Lx} (hx : l[0]? = some x) : (-1 : Int) < x.2.2.2 := by
  obtain ⟨a, h1, _⟩ := offs_at h hx
  rw [h1]; omega
set_option maxRecDepth 100000 in
set_option maxHeartbeats 8000000 in
theorem offsets_law (s x : ByteArray) (w : World) (hT : TabP w) (hs : Rep.str.R w (Lt w) x (Value.string s).cells.toList) (hz : StrZ x) :
    Calls Tryd.prog 10 #[.string s] w (Ret (.bool true) w) := by
  obtain rfl := str_inv hs
  have hz' : s.size ≤ 140737488351232 := hz
  clear hs hz
  have HT := Lib.hid hT
  clear hT
  by_cases hbig : 3000 < s.size
  · go_enter Tryd.func10, Tryd.ntmps10
    go_wp2_with fail
    refine (alive_any _ HT.out).mono ?_
    rintro e w7 ⟨rfl, hb⟩
    go_wp2_with fail
    go_ret
    exact ⟨rfl, hb⟩
  have hs3 : s.size ≤ 3000 := by omega
  clear hbig hz'
  have C1 := Lib.hid (fun w => scan_any s w (by omega))
  unfold ScanPost at C1
  rw [scan_short hs3] at C1
  by_cases he : (scanF 0 s.data.toList).2.1 = 0
  · have hL := scan_lexes _ 0 s.data.toList (Nat.le_refl _) he
    have hzz := scanF_zero _ 0 s.data.toList (Nat.le_refl _) he
    obtain ⟨l, hl⟩ : ∃ l, l = (scanF 0 s.data.toList).1 := ⟨_, rfl⟩
    rw [← hl] at hL C1
    rw [he, hzz] at C1
    have okl := (lexes_ok hL).1
    rw [size_list] at okl
    have hnl := List.length_pos_iff.2 (lexes_ne hL)
    obtain ⟨n, hn⟩ : ∃ n, l.length = n + 1 := ⟨l.length - 1, by omega⟩
    have HOFF : Hid (∀ k x, l[k]? = some x → ∃ a : Nat, x.2.2.2 = (a : Int) ∧ a ≤ s.size ∧ (x.1 = 3 → s.data.toList[a]? = some 34) ∧ (x.1 ≠ 3 → (s.data.toList.drop a).take x.2.1.length = x.2.1 ∧ x.2.1.length ≤ s.size - a) ∧ (x.1 = 0 ↔ k + 1 = l.length) ∧ (k + 1 = l.length → a = s.size) ∧ (∀ y, l[k + 1]? = some y → (a : Int) < y.2.2.2)) := fun k x hx => offs_at hL hx
    have H0 : Hid (∀ x, l[0]? = some x → (-1 : Int) < x.2.2.2) := fun x hx => offs_zero hL hx
    have HLN := Lib.hid hn
    have hnb : n ≤ 3000 := by omega
    clear hL hzz hl he okl hnl hn
    go_enter Tryd.func10, Tryd.ntmps10
    go_wp2_with fail
    refine (C1.out _).mono ?_
    rintro e w1 ⟨v1, rfl, r1, b1⟩
    obtain ⟨A1, c1, rfl, -, -⟩ := slice_inv r1
    rw [HLN.out] at r1 ⊢
    go_wp2_with fail
    go_loopw [6, 7] (fun z i wr => ∃ (k : Nat) (q : Int), k ≤ n + 1 ∧ i = .int .i64 k ∧ z = .int .i64 q ∧ -1 ≤ q ∧ q ≤ (s.size : Int) ∧ Below w1.heap.size w1 wr ∧ Hid (∀ x, l[k]? = some x → q < x.2.2.2) ∧ Hid (k = n + 1 → q = (s.size : Int))) (fun _ i _ => n + 1 - (intOf i).toNat)
    case atStart => exact ⟨0, -1, by omega, rfl, rfl, by omega, by omega, Below.refl _ _, H0, fun h => absurd h (by omega)⟩
    case round =>
      obtain ⟨k, q, hk, rfl, rfl, hq0, hq1, hbr, hQ, hQE⟩ := hrel
      have hszr := hbr.size
      by_cases hlt : k < n + 1
      · obtain ⟨b', off', y1, y2, y3, y4, rfl, hy, hbD, a0, a1, a2, a3⟩ := lx_at (Rep.at_ r1 hbr) (k := k) (by rw [HLN.out]; exact hlt)
        obtain ⟨a, o1, o2, o3, o4, o5, o6, o7⟩ := HOFF.out k _ hy.out
        have hqa := hQ.out _ hy.out
        have hbD' : b' < wr.heap.size := Nat.lt_of_lt_of_le hbD hszr
        simp only at o1 o3 o4 o5 hqa
        subst o1
        obtain ⟨Y, hY⟩ : ∃ Y : ByteArray, Y = ⟨y2.toArray⟩ := ⟨_, rfl⟩
        rw [← hY] at a1
        have hYl : Y.data.toList = y2 := by rw [hY]
        have HQN : Hid (∀ x, l[k + 1]? = some x → (a : Int) < x.2.2.2) := o7
        have HQE : Hid (k + 1 = n + 1 → (a : Int) = (s.size : Int)) := fun h => by rw [o6 (by rw [HLN.out]; exact h)]
        have hkn : (y1 == 0) = decide (k = n) := by
          rw [HLN.out] at o5
          rw [Bool.eq_iff_iff, beq_iff_eq, decide_eq_true_eq, o5]; omega
        have hkn2 : ((k : Int) == (n : Int)) = decide (k = n) := by rw [Bool.eq_iff_iff, beq_iff_eq, decide_eq_true_eq]; omega
        have hkn3 : (k == n) = decide (k = n) := by rw [Bool.eq_iff_iff, beq_iff_eq, decide_eq_true_eq]
        obtain ⟨bk, hbk⟩ : ∃ bk, decide (k = n) = bk := ⟨_, rfl⟩
        rw [hbk] at hkn hkn2 hkn3
        have hbb : (bk == bk) = true := by simp
        clear hQ hQE o5 o6 o7 hbk hY
        by_cases h3 : y1 = 3
        · have e3 : (y1 == 3) = true := ieq_t h3
          have hD := o3 h3
          have hlt2 : a < s.size := by have := lt_of_get hD; rw [size_list] at this; exact this
          have hsa := byte_at hlt2 hD
          have es : ((a : Int) == (s.size : Int)) = false := ieq_f (by omega)
          have es2 : (a == s.size) = false := by simp; omega
          clear o3 o4 hD h3 hYl
          go_wp2_with fail
          go_roundw
          case rel => exact ⟨k + 1, a, by omega, by go_num, rfl, by omega, by omega, hbr.alloc hszr _, HQN, HQE⟩
          case measure => simp [intOf] <;> omega
        · have e3 : (y1 == 3) = false := ieq_f h3
          obtain ⟨t1, t2⟩ := o4 h3
          have hYs : Y.size = y2.length := by rw [← size_list, hYl]
          have hYb : Y.size ≤ s.size - a := by omega
          have hex : s.extract a (a + Y.size) = Y := by
            rw [extract_eq, show a + Y.size - a = y2.length by omega, t1, ← hYl]
          have qx : (Y.toList != Y.toList) = false := by simp
          have w1' : IntKind.i64.wrap ((a : Int) + (Y.size : Int)) = (a : Int) + (Y.size : Int) := IntWalk.i64_in _ (by omega)
          have w2' : IntKind.i64.wrap ((s.size : Int) - (a : Int)) = (s.size : Int) - (a : Int) := IntWalk.i64_in _ (by omega)
          have w3' : ((a : Int) + (Y.size : Int)).toNat = a + Y.size := by omega
          have w4' : (0 : Int) ≤ (a : Int) + (Y.size : Int) := by omega
          have w5' : decide ((s.size : Int) - (a : Int) < (Y.size : Int)) = false := decide_eq_false (by omega)
          have w6' : ¬ ((s.size : Int) - (a : Int) < (Y.size : Int)) := by omega
          clear o3 o4 t1 t2 h3 hYl hYs
          go_wp2_with fail
          go_quiet (fail)
          go_wp2_with fail
          go_roundw
          case rel => exact ⟨k + 1, a, by omega, by go_num, rfl, by omega, by omega, below_drewN (hbr.alloc hszr _) _, HQN, HQE⟩
          case measure => simp [intOf] <;> omega
      · obtain rfl : k = n + 1 := by omega
        have hqe := hQE.out rfl
        subst hqe
        have hqq := beq_self_int (s.size : Int)
        have bw := bstep b1 b1.size hbr
        have HT6 := Lib.hid (HT.out.below bw)
        clear hQ hQE
        go_wp2_with fail
        refine (alive_any _ HT6.out).mono ?_
        rintro e w7 ⟨rfl, hb⟩
        go_wp2_with fail
        go_ret
        exact ⟨rfl, bstep bw bw.size hb⟩
  · obtain ⟨h1, h2, h3, h4⟩ := scan_err _ 0 s.data.toList (Nat.le_refl _) he
    rw [h1] at C1
    rw [size_list] at h3
    have hen : ((scanF 0 s.data.toList).2.1 != 0) = true := ine_t he
    generalize (scanF 0 s.data.toList).2.1 = e1 at *
    generalize (scanF 0 s.data.toList).2.2 = a1 at *
    have h3' : a1 ≤ (s.size : Int) := by omega
    clear h1 he h3
    have hcs : (e1 == 5) = true ∨ ((e1 == 5) = false ∧ (e1 == 6) = true) ∨ ((e1 == 5) = false ∧ (e1 == 6) = false ∧ (e1 == 9) = true) := by
      rcases h4 with rfl | rfl | rfl
      · exact .inl rfl
      · exact .inr (.inl ⟨rfl, rfl⟩)
      · exact .inr (.inr ⟨rfl, rfl, rfl⟩)
    clear h4
    rcases hcs with g1 | ⟨g1, g2⟩ | ⟨g1, g2, g3⟩
    all_goals
      go_enter Tryd.func10, Tryd.ntmps10
      go_wp2_with fail
      refine (C1.out _).mono ?_
      rintro e w1 ⟨v1, rfl, r1, b1⟩
      obtain ⟨A1, c1, rfl, -, -⟩ := slice_inv r1
      have HT6 := Lib.hid (HT.out.below b1)
      clear r1
      go_wp2_with fail
      refine (alive_any _ HT6.out).mono ?_
      rintro e w7 ⟨rfl, hb⟩
      go_wp2_with fail
      go_ret
      exact ⟨rfl, bstep b1 b1.size hb⟩
end Go.Proofs.YtjcecnlnmodkgaaDoor

/- Chapter 07: the law LexerParts, by walking its text. -/
import Derived.Test.YtjcecnlnmodkgaaDoorLexLaw2
namespace Go.Proofs.YtjcecnlnmodkgaaDoor
open Go Go.RowKit Go.ChangeShapes

theorem ownLx_made (w : World) (base : Nat) (hb : base ≤ w.heap.size) : OwnLx (w.alloc (.cells #[] 35)) base (.slice (some ⟨w.heap.size, 0, none⟩) 0 0) [] :=
  ⟨rfl, .inr ⟨w.heap.size, 0, #[], rfl, hb, heap_alloc_new w _, Nat.le_refl _, by unfold maxLen; omega, rfl, rfl⟩⟩
theorem lx_cells_of {w : World} {D : Nat → Prop} {xs : List Lx} {b off n c : Nat} (h : Rep.lx.slice.R w D xs [.slice (some ⟨b, off, none⟩) n c]) : ∀ j u, (xs.flatMap lxC)[j]? = some u → w.cell? ((⟨b, off, none⟩ : Addr).add j) = some u := by
  intro j u hj
  have hlen : (xs.flatMap lxC).length = xs.length * 4 := by
    clear hj h
    induction xs with
    | nil => rfl
    | cons x xs ih => rw [List.flatMap_cons, List.length_append, ih, List.length_cons]; simp [lxC]; omega
  have hj4 : j < xs.length * 4 := by rw [← hlen]; exact lt_of_get hj
  obtain ⟨A', c', e, h1, h2, h3⟩ := h
  obtain ⟨b', off', es, e2, hb, hr, hc⟩ := h3 (j / 4) (by omega)
  injection e with e _
  injection e with e1 e2' e3
  rw [← e1] at e2
  injection e2 with e2
  injection e2 with e4 e5 _
  subst e4 e5
  have := flatMap_get (enc := lxC) (size := 4) (fun _ => rfl) xs (j / 4) (by omega) (j % 4) (by omega)
  rw [show j / 4 * 4 + j % 4 = j by omega, hj] at this
  have hr' : es = lxC xs[j / 4] := hr
  have h4 := hc (j % 4) (show j % 4 < 4 by omega)
  rw [hr', ← this, show Rep.lx.size = 4 from rfl, show off + j / 4 * 4 + j % 4 = off + j by omega] at h4
  rw [← h4]
  congr 1
  simp [Addr.add]
theorem lx_all_one (xs : List Lx) : ∀ u ∈ xs.flatMap lxC, u.oneCell' = true := by
  intro u hu
  obtain ⟨x, _, hx⟩ := List.mem_flatMap.1 hu
  exact lx_one x u hx
theorem lx_flat_len (xs : List Lx) : (xs.flatMap lxC).length = xs.length * 4 := by
  induction xs with
  | nil => rfl
  | cons x xs ih => rw [List.flatMap_cons, List.length_append, ih, List.length_cons]; simp [lxC]; omega
theorem sizeOf_lx (w : World) : (Go.sizeOf 35).run Tryd.prog w = .ok 4 w := Tryd.sizeOf35 w
/-- what a scan of a short text gives. -/
theorem scan_short {s : ByteArray} (h : s.size ≤ 3000) : scanS s.data.toList = scanF 0 s.data.toList := by unfold scanS; rw [if_neg (by rw [size_list]; omega)]
theorem offs_bd {s : ByteArray} {ls : List Lx} (h : Lexes 0 s.data.toList ls) : ∀ x ∈ ls, 0 ≤ x.2.2.2 ∧ x.2.2.2 ≤ (s.size : Int) := by
  intro x hx
  obtain ⟨k, hk⟩ := List.getElem?_of_mem hx
  obtain ⟨a, ⟨h1, h2, _⟩, _⟩ := offs_plain h 0 rfl (by rw [List.drop_zero]) (Nat.zero_le _) k x hk
  rw [size_list] at h2
  omega
set_option maxRecDepth 100000 in
set_option maxHeartbeats 8000000 in
theorem parts_law (s t x y : ByteArray) (w : World) (hT : TabP w) (hs : Rep.str.R w (Lt w) x (Value.string s).cells.toList) (hz : StrZ x) (ht : Rep.str.R w (Lt w) y (Value.string t).cells.toList) (hz2 : StrZ y) :
    Calls Tryd.prog 9 #[.string s, .string t] w (Ret (.bool true) w) := by
  obtain rfl := str_inv hs
  obtain rfl := str_inv ht
  have hz' : s.size ≤ 140737488351232 := hz
  have hz2' : t.size ≤ 140737488351232 := hz2
  clear hs hz ht hz2
  have HT := Lib.hid hT
  clear hT
  by_cases hbig : 3000 < s.size
  · go_enter Tryd.func9, Tryd.ntmps9
    go_wp2_with fail
    refine (alive_any _ HT.out).mono ?_
    rintro e w7 ⟨rfl, hb⟩
    go_wp2_with fail
    go_ret
    exact ⟨rfl, hb⟩
  by_cases hbig2 : 3000 < t.size
  · go_enter Tryd.func9, Tryd.ntmps9
    go_wp2_with fail
    refine (alive_any _ HT.out).mono ?_
    rintro e w7 ⟨rfl, hb⟩
    go_wp2_with fail
    go_ret
    exact ⟨rfl, hb⟩
  have hs3 : s.size ≤ 3000 := by omega
  have ht3 : t.size ≤ 3000 := by omega
  clear hbig hbig2 hz' hz2'
  have C1 := Lib.hid (fun w => scan_any s w (by omega))
  have C2 := Lib.hid (fun w => scan_any t w (by omega))
  unfold ScanPost at C1 C2
  rw [scan_short hs3] at C1
  rw [scan_short ht3] at C2
  by_cases hbad : (scanF 0 s.data.toList).2.1 = 0 ∧ (scanF 0 t.data.toList).2.1 = 0
  · obtain ⟨he, hf⟩ := hbad
    have hL := scan_lexes _ 0 s.data.toList (Nat.le_refl _) he
    have hM := scan_lexes _ 0 t.data.toList (Nat.le_refl _) hf
    have hzz := scanF_zero _ 0 s.data.toList (Nat.le_refl _) he
    have hzm := scanF_zero _ 0 t.data.toList (Nat.le_refl _) hf
    obtain ⟨l, hl⟩ : ∃ l, l = (scanF 0 s.data.toList).1 := ⟨_, rfl⟩
    obtain ⟨m, hm⟩ : ∃ m, m = (scanF 0 t.data.toList).1 := ⟨_, rfl⟩
    rw [← hl] at hL C1
    rw [← hm] at hM C2
    rw [he, hzz] at C1
    rw [hf, hzm] at C2
    have okl := (lexes_ok hL).1
    have okm := (lexes_ok hM).1
    rw [size_list] at okl okm
    have HBD := Lib.hid (offs_bd hM)
    have hnl := List.length_pos_iff.2 (lexes_ne hL)
    have hnm := List.length_pos_iff.2 (lexes_ne hM)
    obtain ⟨n, hn⟩ : ∃ n, l.length = n + 1 := ⟨l.length - 1, by omega⟩
    obtain ⟨p, hp⟩ : ∃ p, m.length = p + 1 := ⟨m.length - 1, by omega⟩
    have hparts := parts_plain hL t.data.toList ((s.size : Int) + 1) (m.map (shiftF ((s.size : Int) + 1))) (by rw [size_list]; omega) (by have := lexes_shift hM ((s.size : Int) + 1); rw [show (0 : Int) + ((s.size : Int) + 1) = (s.size : Int) + 1 by omega] at this; exact this)
    have hcat : (s ++ ⟨#[10]⟩ ++ t : ByteArray).data.toList = s.data.toList ++ 10 :: t.data.toList := by simp
    have hcs : (s ++ ⟨#[10]⟩ ++ t : ByteArray).size ≤ 6001 := by
      rw [ByteArray.size_append, ByteArray.size_append, show (⟨#[10]⟩ : ByteArray).size = 1 from rfl]; omega
    have C3 := Lib.hid (fun w => scan_any (s ++ ⟨#[10]⟩ ++ t) w (by omega))
    unfold ScanPost at C3
    rw [show scanS (s ++ ⟨#[10]⟩ ++ t : ByteArray).data.toList = (l.dropLast ++ m.map (shiftF ((s.size : Int) + 1)), 0, 0) from by
      unfold scanS; rw [if_neg (by rw [size_list]; omega), hcat]; exact lexes_scan hparts] at C3
    have hdl : l.dropLast = l.take n := by rw [List.dropLast_eq_take, hn]; rfl
    rw [hdl] at C3
    have HLN := Lib.hid hn
    have HMP := Lib.hid hp
    have hnb : n ≤ 3000 := by omega
    have hpb : p ≤ 3000 := by omega
    obtain ⟨i0, hinf, hz0, hz1, hz2⟩ := info_parts lx_info
    clear hL hM hzz hzm hl hm he hf okl okm hnl hnm hn hp hparts hcat hcs hdl
    go_enter Tryd.func9, Tryd.ntmps9
    go_wp2_with fail
    refine (C1.out _).mono ?_
    rintro e w1 ⟨v1, rfl, r1, b1⟩
    go_wp2_with fail
    refine (C2.out _).mono ?_
    rintro e w2 ⟨v2, rfl, r2, b2a⟩
    have r1' := Rep.below r1 b2a
    have b2 := bstep b1 b1.size b2a
    clear b2a b1 r1
    obtain ⟨A1, c1, rfl, -, hc1⟩ := slice_inv r1'
    obtain ⟨A2, c2, rfl, -, hc2⟩ := slice_inv r2
    obtain ⟨bb, off, x1, x2, x3, x4, rfl, -, -, -, -, -, -⟩ := lx_at r1' (k := 0) (by rw [HLN.out]; omega)
    have r1t := Rep.slice_take r1' (k := n) (by rw [HLN.out]; omega)
    rw [HLN.out] at r1' hc1 ⊢
    rw [HMP.out] at r2 hc2 ⊢
    have hrt := fun W : World => run_take Tryd.underlying23 sizeOf_lx (some ⟨bb, off, none⟩) (n + 1) c1 n (by omega) W
    have hs2 := b2.size
    have hcells := lx_cells_of r1t
    have hbb : bb < w2.heap.size := by
      obtain ⟨_, _, e, _, _, h3⟩ := r1'
      obtain ⟨b', _, _, e2, hb', _⟩ := h3 0 (by rw [HLN.out]; omega)
      injection e with e _
      injection e with e _
      rw [← e] at e2
      injection e2 with e2
      injection e2 with e4 _ _
      rw [e4]; exact hb'
    have hnl : (l.take n).length = n := List.length_take_of_le (by rw [HLN.out]; omega)
    have HNL := Lib.hid hnl
    clear hnl
    have hc' : ∀ j u, ((l.take n).flatMap lxC)[j]? = some u → (w2.alloc (.cells #[] 35)).cell? ((⟨bb, off, none⟩ : Addr).add j) = some u := fun j u hj => by
      rw [((Below.refl w2.heap.size w2).alloc (Nat.le_refl _) (.cells #[] 35)).cell (p := (⟨bb, off, none⟩ : Addr).add j) (by unfold Addr.add; split <;> exact hbb)]; exact hcells j u hj
    have z1 : ((n : Int) + 1 == 0) = false := ieq_f (by omega)
    have z2 : ((p : Int) + 1 == 0) = false := ieq_f (by omega)
    have hfl : ((l.take n).flatMap lxC).length = n * 4 := by rw [lx_flat_len, HNL.out]
    have hom := ownLx_made w2 w2.heap.size (Nat.le_refl _)
    unfold OwnLx at hom
    go_wp2_with (at_builtin; refine wpList_append_own _ rfl _ _ 23 rfl w2.heap.size 35 i0 (.agg #[.int .i64 0, .string ⟨#[]⟩, .int .i64 0, .int .i64 0]) 4 40 Tryd.underlying23 hinf hz0 hz1 hz2 rfl (by decide) _ _ _ rfl hom ⟨bb, off, none⟩ n c1 ((l.take n).flatMap lxC) rfl hfl hc' (lx_all_one _) (by unfold maxLen; simp; omega) (by simp; omega) (by simp) ?_)
    intro v3 w3 hown3 hg3 _
    have hown4 : OwnLx w3 w2.heap.size v3 (l.take n) := by unfold OwnLx; rw [HNL.out]; simpa using hown3
    have hb23 : Below w2.heap.size w2 w3 := ((Below.refl w2.heap.size w2).alloc (Nat.le_refl _) (.cells #[] 35)).grown hg3 (by simp) (fun j hj => (World.ownsRow.lt (ownLx_made w2 w2.heap.size (Nat.le_refl _)) j hj).1)
    clear hown3 hg3 hcells r1t hrt hc' hfl hom z1 z2
    go_wp2_with fail
    go_loopw [11, 12] (fun o i wr => ∃ (k : Nat) (acc : List Lx), k ≤ p + 1 ∧ i = .int .i64 k ∧ acc.length = n + k ∧ OwnLx wr w2.heap.size o acc ∧ Below w2.heap.size w2 wr ∧ Hid (acc = l.take n ++ (m.take k).map (shiftF ((s.size : Int) + 1)))) (fun _ i _ => p + 1 - (intOf i).toNat)
    case atStart => exact ⟨0, l.take n, by omega, rfl, by rw [HNL.out]; rfl, hown4, hb23, by show _ = _; simp⟩
    case round =>
      obtain ⟨k, acc, hk, rfl, hal, hown, hbr, hE⟩ := hrel
      have hszr := hbr.size
      clear hown4 hb23
      by_cases hlt : k < p + 1
      · obtain ⟨b', off', y1, y2, y3, y4, hA2, hy, hbD, a0, a1, a2, a3⟩ := lx_at (Rep.at_ r2 hbr) (k := k) (by rw [HMP.out]; exact hlt)
        subst hA2
        have hyb := HBD.out _ (List.mem_of_getElem? hy.out)
        have y40 : 0 ≤ y4 := hyb.1
        have y41 : y4 ≤ (t.size : Int) := hyb.2
        obtain ⟨Y, hY⟩ : ∃ Y : ByteArray, Y = ⟨y2.toArray⟩ := ⟨_, rfl⟩
        rw [← hY] at a1
        have HC : Hid (lxC (shiftF ((s.size : Int) + 1) (y1, y2, y3, y4)) = [.int .i64 y1, .string Y, .int .i64 y3, .int .i64 (y4 + (s.size : Int) + 1)]) := by
          show _ = _; rw [hY]; simp only [lxC, shiftF]; rw [Int.add_assoc]
        have HT1 : Hid (m.take (k + 1) = m.take k ++ [(y1, y2, y3, y4)]) := take_one hy.out
        clear hyb hY
        go_wp2_with (at_builtin; refine wpList_append_own _ rfl _ _ 23 rfl w2.heap.size 35 i0 (.agg #[.int .i64 0, .string ⟨#[]⟩, .int .i64 0, .int .i64 0]) 4 40 Tryd.underlying23 hinf hz0 hz1 hz2 rfl (by decide) _ _ _ rfl (World.ownsRow.alloc (World.ownsRow.alloc hown _) _) ⟨wr.heap.size + 1, 0, none⟩ 1 1 [.int .i64 y1, .string Y, .int .i64 y3, .int .i64 (y4 + (s.size : Int) + 1)] rfl rfl (by simpa using new4_cells (wr.alloc (.cells #[.int .i64 y1, .string Y, .int .i64 y3, .int .i64 (y4 + (s.size : Int) + 1)] 35)) (.int .i64 y1) (.string Y) (.int .i64 y3) (.int .i64 (y4 + (s.size : Int) + 1)) 35) (by rw [← HC.out]; exact lx_one _) (by unfold maxLen; omega) (by omega) (by simp; omega) ?_)
        intro v5 w5 hown5 hg5 _
        rw [← HC.out] at hown5
        have hown6 := ownLx_snoc (ls := acc) (by rw [hal]; exact hown5)
        have hbr5 := ((hbr.alloc hszr (.cells #[.int .i64 y1, .string Y, .int .i64 y3, .int .i64 (y4 + (s.size : Int) + 1)] 35)).alloc (by simp; omega) (.cells #[.int .i64 y1, .string Y, .int .i64 y3, .int .i64 (y4 + (s.size : Int) + 1)] 35)).grown hg5 (by simp; omega) (fun j hj => (World.ownsRow.lt hown j hj).1)
        clear hown5 hg5
        go_wp2_with fail
        go_roundw
        case rel => exact ⟨k + 1, acc ++ [shiftF ((s.size : Int) + 1) (y1, y2, y3, y4)], by omega, by go_num, by simp; omega, hown6, hbr5, by show _ = _; rw [HT1.out, hE.out, List.map_append, List.append_assoc]; rfl⟩
        case measure => simp [intOf] <;> omega
      · obtain rfl : k = p + 1 := by omega
        have hR := ownLx_rep hown
        have HF : Hid (acc = l.take n ++ m.map (shiftF ((s.size : Int) + 1))) := by show _ = _; rw [hE.out, List.take_of_length_le (l := m) (by rw [HMP.out]; exact Nat.le_refl _)]
        have bw := bstep b2 b2.size hbr
        clear hE hown hbr
        go_wp2_with fail
        refine (C3.out _).mono ?_
        rintro e w6 ⟨v6, rfl, r6, b6a⟩
        have hR6 := Rep.below hR b6a
        have b6 := bstep bw bw.size b6a
        rw [← HF.out] at r6
        have C4 := Lib.hid (same_eq _ _ acc w6 r6 hR6)
        clear b6a bw hR r6 hR6
        go_wp2_with fail
        refine C4.out.mono ?_
        rintro e w7 ⟨rfl, u7⟩
        have b7 := bstep b6 b6.size (u7.below w6.heap.size)
        have HT6 := Lib.hid (HT.out.below b7)
        clear u7 b6
        go_wp2_with fail
        refine (alive_any _ HT6.out).mono ?_
        rintro e w8 ⟨rfl, hb⟩
        go_wp2_with fail
        go_ret
        exact ⟨rfl, bstep b7 b7.size hb⟩
  · generalize scanF 0 s.data.toList = r1 at *
    generalize scanF 0 t.data.toList = r2 at *
    obtain ⟨l1, e1, a1⟩ := r1
    obtain ⟨l2, e2, a2⟩ := r2
    have hcs : (e1 != 0) = true ∨ ((e1 != 0) = false ∧ (e2 != 0) = true) := by
      by_cases h : e1 = 0
      · exact .inr ⟨ine_f h, ine_t (fun h2 => hbad ⟨h, h2⟩)⟩
      · exact .inl (ine_t h)
    clear hbad
    rcases hcs with q1 | ⟨q1, q2⟩
    all_goals
      go_enter Tryd.func9, Tryd.ntmps9
      go_wp2_with fail
      refine (C1.out _).mono ?_
      rintro e w1 ⟨v1, rfl, r1, b1⟩
      go_wp2_with fail
      refine (C2.out _).mono ?_
      rintro e w2 ⟨v2, rfl, r2, b2a⟩
      have b2 := bstep b1 b1.size b2a
      have HT6 := Lib.hid (HT.out.below b2)
      clear b2a b1 r1 r2
      go_wp2_with fail
      refine (alive_any _ HT6.out).mono ?_
      rintro e w7 ⟨rfl, hb⟩
      go_wp2_with fail
      go_ret
      exact ⟨rfl, bstep b2 b2.size hb⟩
end Go.Proofs.YtjcecnlnmodkgaaDoor

/- Chapter 07: the laws LexerPrints and LexerBack, by walking their text. -/
import Derived.Test.YtjcecnlnmodkgaaDoorLexLaw1
namespace Go.Proofs.YtjcecnlnmodkgaaDoor
open Go Go.RowKit Go.ChangeShapes

def Rep.lxa : Rep Lx := (Rep.int.pair (Rep.str.pair (Rep.int.pair Rep.int))).iso (fun x : Lx => (x.1, (⟨x.2.1.toArray⟩ : ByteArray), x.2.2.1, x.2.2.2))
def LxZ (x : Lx) : Prop := PairZ (fun _ : Int => True) (PairZ StrZ (PairZ (fun _ : Int => True) (fun _ : Int => True))) (x.1, (⟨x.2.1.toArray⟩ : ByteArray), x.2.2.1, x.2.2.2)
theorem opens_lx : OpensZ Tryd.prog 35 Rep.lxa LxZ :=
  opensZ_iso (f := fun x : Lx => (x.1, (⟨x.2.1.toArray⟩ : ByteArray), x.2.2.1, x.2.2.2)) (fun y => (y.1, y.2.1.data.toList, y.2.2.1, y.2.2.2)) (fun _ => rfl)
    (opensZ_struct Tryd.underlying35 (tot := 4) (by kernel_rfl)
      (opensFZ_cons rfl (by kernel_rfl) opens_i (opensFZ_cons rfl (by kernel_rfl) opens_s (opensFZ_cons rfl (by kernel_rfl) opens_i (opensFZ_last rfl (by kernel_rfl) opens_i)))))
theorem opens_lxs : OpensZ Tryd.prog 23 Rep.lxa.slice (SliceZ LxZ) := opensZ_slice Tryd.underlying23 (by kernel_rfl) (by decide) (of_decide_eq_true (by kernel_rfl)) opens_lx
theorem lxa_one {w : World} {D : Nat → Prop} {x : Lx} {es : List Value} (h : Rep.lxa.R w D x es) : es = lxC x ∧ inI64 x.2.2.1 := by
  obtain ⟨a, b, rfl, ⟨rfl, _⟩, ⟨c, d, rfl, ⟨rfl, _⟩, ⟨e, f, rfl, ⟨rfl, h3⟩, ⟨rfl, _⟩⟩⟩⟩ := h
  exact ⟨rfl, h3⟩
theorem lxa_slice {w : World} {D : Nat → Prop} {l : List Lx} {v : Value} (h : Rep.lxa.slice.R w D l [v]) : Rep.lx.slice.R w D l [v] ∧ ∀ x ∈ l, inI64 x.2.2.1 := by
  obtain ⟨A, c, e, h1, h2, h3⟩ := h
  constructor
  · refine ⟨A, c, e, h1, h2, fun k hk => ?_⟩
    obtain ⟨b, off, es, e2, hb, hr, hc⟩ := h3 k hk
    exact ⟨b, off, es, e2, hb, (lxa_one hr).1, hc⟩
  · intro x hx
    obtain ⟨k, hk, rfl⟩ := List.getElem_of_mem hx
    obtain ⟨b, off, es, e2, hb, hr, hc⟩ := h3 k hk
    exact (lxa_one hr).2
set_option maxRecDepth 100000 in
set_option maxHeartbeats 4000000 in
theorem prints_law (v : Value) (l : List Lx) (w : World) (hT : TabP w) (hl : Rep.lxa.slice.R w (Lt w) l [v]) (_ : SliceZ LxZ l) :
    Calls Tryd.prog 6 #[v] w (Ret (.bool true) w) := by
  obtain ⟨ha, hin⟩ := lxa_slice hl
  clear hl
  have HIN := Lib.hid hin
  have HT := Lib.hid hT
  clear hT hin
  obtain ⟨A, c, rfl, hm, -⟩ := slice_inv ha
  by_cases hbig : 60 < l.length
  · go_enter Tryd.func6, Tryd.ntmps6
    go_wp2_with fail
    refine (alive_any _ HT.out).mono ?_
    rintro e w7 ⟨rfl, hb⟩
    go_wp2_with fail
    go_ret
    exact ⟨rfl, hb⟩
  have hl60 : l.length ≤ 60 := by omega
  clear hbig
  go_enter Tryd.func6, Tryd.ntmps6
  go_wp2_with fail
  go_loop [3] (fun i => ∃ k : Nat, k ≤ l.length ∧ i = .int .i64 k ∧ Hid (∀ x ∈ l.take k, x.2.1.length ≤ 200)) (fun i => l.length - (intOf i).toNat)
  case atStart => exact ⟨0, by omega, rfl, by show ∀ x ∈ l.take 0, _; simp⟩
  case round =>
    obtain ⟨k, hk, rfl, hA⟩ := hrel
    by_cases hlt : k < l.length
    · obtain ⟨b, off, x1, x2, x3, x4, rfl, hx, hbD, a0, a1, a2, a3⟩ := lx_at ha hlt
      obtain ⟨X, hX⟩ : ∃ X : ByteArray, X = ⟨x2.toArray⟩ := ⟨_, rfl⟩
      rw [← hX] at a1
      have hXs : X.size = x2.length := by rw [← size_list, hX]
      clear hX
      by_cases h200 : 200 < X.size
      · go_wp2_with fail
        refine (alive_any _ HT.out).mono ?_
        rintro e w7 ⟨rfl, hb⟩
        go_wp2_with fail
        go_ret
        exact ⟨rfl, hb⟩
      · have HA : Hid (∀ x ∈ l.take (k + 1), x.2.1.length ≤ 200) := by
          show ∀ x ∈ l.take (k + 1), _
          intro x hxm
          rw [take_one hx.out] at hxm
          rcases List.mem_append.1 hxm with h | h
          · exact hA.out x h
          · simp at h; subst h; show x2.length ≤ 200; omega
        have h200' : ¬ (200 : Int) < (X.size : Int) := by omega
        clear hXs h200 hA
        go_wp2_with fail
        go_round
        case rel => exact ⟨k + 1, by omega, by go_num, HA⟩
        case measure => simp [intOf] <;> omega
    · obtain rfl : k = l.length := by omega
      have hok : PrOk l := by
        have := hA.out
        rw [List.take_length] at this
        exact ⟨by omega, fun x hx => ⟨by have := this x hx; omega, HIN.out x hx⟩⟩
      have C1 := Lib.hid (print_any _ l w ha hok HT.out)
      have C2 := Lib.hid (fun w1 (h : Rep.lx.slice.R w1 (Lt w1) l [.slice A l.length c]) => refPrint_any _ l w1 h hok)
      have HA := Lib.hid ha
      obtain ⟨T, hTT⟩ : ∃ T : ByteArray, T = ⟨(printF l).toArray⟩ := ⟨_, rfl⟩
      rw [← hTT] at C1 C2
      have q1 : (T.toList == T.toList) = true := by simp
      clear hok hA hTT ha
      go_wp2_with fail
      refine (C1.out).mono ?_
      rintro e w1 ⟨rfl, b1⟩
      have C3 := Lib.hid (C2.out w1 (Rep.below HA.out b1))
      go_wp2_with fail
      refine (C3.out).mono ?_
      rintro e w2 ⟨rfl, b2a⟩
      have b2 := bstep b1 b1.size b2a
      have HT6 := Lib.hid (HT.out.below b2)
      clear b2a b1
      go_wp2_with fail
      refine (alive_any _ HT6.out).mono ?_
      rintro e w7 ⟨rfl, hb⟩
      go_wp2_with fail
      go_ret
      exact ⟨rfl, bstep b2 b2.size hb⟩
theorem qs_text : ∀ {l x : List UInt8} {k : Nat}, QsOk l x k → x.length ≤ l.length := by
  intro l x k h
  induction h with
  | quote l => simp
  | pl h _ ih => simp; omega
  | two h _ ih => simp; omega
  | n _ ih => simp; omega
theorem parse_in (s : List UInt8) : inI64 (parseL s).1 := by
  unfold parseL parseD inI64
  split
  · decide
  · split
    · decide
    · split
      · decide
      · split
        · split
          · decide
          · split <;> omega
        · decide
theorem one_ok {c : UInt8} {t : List UInt8} (h : (lxOne (c :: t)).2.2.2.2 = 0) : (lxOne (c :: t)).2.1.length ≤ t.length + 1 ∧ inI64 (lxOne (c :: t)).2.2.1 := by
  have hz : inI64 0 := by unfold inI64; decide
  by_cases c1 : lxLet c = true
  · by_cases c2 : 16 < nmLen t + 1
    · rw [lxOne, if_pos c1, if_pos c2]; exact ⟨by simp, hz⟩
    · rw [lxOne, if_pos c1, if_neg c2]; exact ⟨by simp only [List.length_take, List.length_cons]; omega, hz⟩
  by_cases c2 : isDig c = true
  · by_cases c3 : (parseL ((c :: t).take (dgLen (c :: t)))).2 = 0
    · rw [lxOne, if_neg c1, if_pos c2, if_pos c3]; exact ⟨by simp only [List.length_take, List.length_cons]; omega, parse_in _⟩
    · rw [lxOne, if_neg c1, if_pos c2, if_neg c3]; exact ⟨by simp, hz⟩
  by_cases c3 : (c == 34) = true
  · by_cases c4 : (qs t).2.2 = true
    · rw [lxOne, if_neg c1, if_neg c2, if_pos c3, if_pos c4]; exact ⟨by have := qs_text (qs_ok _ t (Nat.le_refl _) c4); simp only; omega, hz⟩
    · rw [lxOne, if_neg c1, if_neg c2, if_pos c3, if_neg c4]; exact ⟨by simp, hz⟩
  by_cases c4 : (c == 45 && t.head? == some 62) = true
  · rw [lxOne, if_neg c1, if_neg c2, if_neg c3, if_pos c4]
    rw [Bool.and_eq_true] at c4
    cases t with
    | nil => simp at c4
    | cons d t => exact ⟨by simp, hz⟩
  by_cases c5 : lxMk c = true
  · rw [lxOne, if_neg c1, if_neg c2, if_neg c3, if_neg c4, if_pos c5]; exact ⟨by simp, hz⟩
  · rw [lxOne, if_neg c1, if_neg c2, if_neg c3, if_neg c4, if_neg c5]; exact ⟨by simp, hz⟩
theorem lexes_ok {i : Int} {l : List UInt8} {ls : List Lx} (h : Lexes i l ls) : ls.length ≤ l.length + 1 ∧ ∀ x ∈ ls, x.2.1.length ≤ l.length ∧ inI64 x.2.2.1 := by
  induction h with
  | done h => exact ⟨by simp, fun x hx => by simp at hx; subst hx; exact ⟨by simp, show inI64 0 from by unfold inI64; decide⟩⟩
  | @step i l t c ls h ho hr ih =>
    have hsk := skip_len false l
    rw [h, List.length_cons] at hsk
    have hlen := one_len c t
    have hp := hlen.2 ho
    obtain ⟨i1, i2⟩ := ih
    rw [List.length_drop, List.length_cons] at i1
    have ho2 := one_ok ho
    refine ⟨by rw [List.length_cons]; omega, fun x hx => ?_⟩
    rcases List.mem_cons.1 hx with rfl | hx
    · exact ⟨by have := ho2.1; simp only; omega, ho2.2⟩
    · have := i2 x hx
      rw [List.length_drop, List.length_cons] at this
      exact ⟨by omega, this.2⟩
set_option maxRecDepth 100000 in
set_option maxHeartbeats 4000000 in
theorem back_law (s x : ByteArray) (w : World) (hT : TabP w) (hs : Rep.str.R w (Lt w) x (Value.string s).cells.toList) (hz : StrZ x) :
    Calls Tryd.prog 8 #[.string s] w (Ret (.bool true) w) := by
  obtain rfl := str_inv hs
  have hz' : s.size ≤ 140737488351232 := hz
  clear hs hz
  have HT := Lib.hid hT
  clear hT
  by_cases hbig : 3000 < s.size
  · go_enter Tryd.func8, Tryd.ntmps8
    go_wp2_with fail
    refine (alive_any _ HT.out).mono ?_
    rintro e w7 ⟨rfl, hb⟩
    go_wp2_with fail
    go_ret
    exact ⟨rfl, hb⟩
  have C1 := Lib.hid (fun w => scan_any s w (by omega))
  unfold ScanPost at C1
  have hS : scanS s.data.toList = scanF 0 s.data.toList := by unfold scanS; rw [if_neg (by rw [size_list]; omega)]
  rw [hS] at C1
  by_cases he : (scanF 0 s.data.toList).2.1 = 0
  · have hL := scan_lexes _ 0 s.data.toList (Nat.le_refl _) he
    have hzz := scanF_zero _ 0 s.data.toList (Nat.le_refl _) he
    obtain ⟨l, hl⟩ : ∃ l, l = (scanF 0 s.data.toList).1 := ⟨_, rfl⟩
    rw [← hl] at hL C1
    rw [he, hzz] at C1
    obtain ⟨ok1, ok2⟩ := lexes_ok hL
    rw [size_list] at ok1 ok2
    have hok : PrOk l := ⟨by omega, fun x hx => ⟨by have := (ok2 x hx).1; omega, (ok2 x hx).2⟩⟩
    obtain ⟨ms, m1, m2, ⟨ms', m3⟩, m4⟩ := back_plain hL 0
    rw [size_list] at m4
    obtain ⟨T, hTT⟩ : ∃ T : ByteArray, T = ⟨(printF l).toArray⟩ := ⟨_, rfl⟩
    have hTl : T.data.toList = printF l := by rw [hTT]
    have hTs : T.size ≤ 6000 := by rw [← size_list, hTl]; omega
    have C3 := Lib.hid (fun w => scan_any T w (by omega))
    unfold ScanPost at C3
    rw [show scanS T.data.toList = (ms, 0, 0) from by unfold scanS; rw [if_neg (by rw [size_list]; omega), hTl]; exact lexes_scan m1] at C3
    have hlen : ms.length = l.length := by have := congrArg List.length m2; simpa using this
    have hne := List.length_pos_iff.2 (lexes_ne hL)
    obtain ⟨n, hn⟩ : ∃ n, l.length = n + 1 := ⟨l.length - 1, by omega⟩
    have hmn : ms[n]? = some (0, [], 0, (T.size : Int)) := by
      have h1 : ms'.length = n := by have := congrArg List.length m3; simp at this; omega
      rw [m3, List.getElem?_append_right (by omega), h1, Nat.sub_self, ← size_list, hTl]; simp
    have C2 := Lib.hid (fun w1 v (h : Rep.lx.slice.R w1 (Lt w1) l [v]) hT => print_any v l w1 h hok hT)
    rw [← hTT] at C2
    have HMN := Lib.hid hmn
    have HM2 := Lib.hid m2
    have HLN := Lib.hid hn
    have HMLN : Hid (ms.length = n + 1) := by show _ = _; omega
    have hnb : n ≤ 4000 := by omega
    clear hL hzz hl he hS ok1 ok2 hok m1 m2 m3 m4 hTT hTl hlen hne hn hmn
    go_enter Tryd.func8, Tryd.ntmps8
    go_wp2_with fail
    refine (C1.out _).mono ?_
    rintro e w1 ⟨v1, rfl, r1, b1⟩
    obtain ⟨A1, c1, rfl, -, -⟩ := slice_inv r1
    rw [HLN.out] at r1 ⊢
    have C2' := Lib.hid (C2.out w1 _ r1 (HT.out.below b1))
    go_wp2_with fail
    refine (C2'.out).mono ?_
    rintro e w2 ⟨rfl, b2a⟩
    have r2 := Rep.below r1 b2a
    have b2 := bstep b1 b1.size b2a
    clear b2a b1 r1 C2'
    go_wp2_with fail
    refine (C3.out _).mono ?_
    rintro e w3 ⟨v3, rfl, r3, b3a⟩
    have r4 := Rep.below r2 b3a
    have b3 := bstep b2 b2.size b3a
    clear b3a b2 r2
    obtain ⟨A3, c3, rfl, -, -⟩ := slice_inv r3
    have r3' := r3
    rw [HMLN.out] at r3' ⊢
    obtain ⟨bb, off, x1, x2, x3, x4, rfl, hx, -, a0, a1, a2, a3⟩ := lx_at r3' (k := n) (by rw [HMLN.out]; omega)
    have hxe : (x1, x2, x3, x4) = (0, [], 0, (T.size : Int)) := by
      have h1 := hx.out
      rw [HMN.out] at h1
      injection h1 with h1
      exact h1.symm
    injection hxe with e1 hxe
    injection hxe with e2 hxe
    injection hxe with e3 e4
    subst e1 e2 e3 e4
    have HE : ∀ W, (binOp .neq 35 (.agg #[.int .i64 0, .string ⟨#[]⟩, .int .i64 0, .int .i64 (T.size : Int)]) (.agg #[.int .i64 0, .string ⟨#[]⟩, .int .i64 0, .int .i64 (T.size : Int)])).run Tryd.prog W = .ok (.bool false) W := fun W => by
      rw [neq_lx 0 ⟨#[]⟩ 0 (T.size : Int) (T.size : Int) W]; simp
    have C4 := Lib.hid (same_any _ _ l ms w3 r4 r3' HM2.out.symm)
    unfold SamePost at C4
    clear r3 r4
    go_wp2_with fail
    refine (C4.out).mono ?_
    rintro e w4 ⟨b, rfl, -, u4⟩
    have b4 := bstep b3 b3.size (u4.below w3.heap.size)
    have HT6 := Lib.hid (HT.out.below b4)
    clear u4 b3
    go_wp2_with fail
    refine (alive_any _ HT6.out).mono ?_
    rintro e w7 ⟨rfl, hb⟩
    go_wp2_with fail
    go_ret
    exact ⟨rfl, bstep b4 b4.size hb⟩
  · obtain ⟨h1, _, _, _⟩ := scan_err _ 0 s.data.toList (Nat.le_refl _) he
    rw [h1] at C1
    have hen : ((scanF 0 s.data.toList).2.1 != 0) = true := ine_t he
    generalize (scanF 0 s.data.toList).2.1 = e1 at *
    generalize (scanF 0 s.data.toList).2.2 = a1 at *
    clear h1 hS he
    go_enter Tryd.func8, Tryd.ntmps8
    go_wp2_with fail
    refine (C1.out _).mono ?_
    rintro e w1 ⟨v1, rfl, r1, b1⟩
    obtain ⟨A1, c1, rfl, -, -⟩ := slice_inv r1
    have HT6 := Lib.hid (HT.out.below b1)
    clear r1
    go_wp2_with fail
    refine (alive_any _ HT6.out).mono ?_
    rintro e w7 ⟨rfl, hb⟩
    go_wp2_with fail
    go_ret
    exact ⟨rfl, bstep b1 b1.size hb⟩
end Go.Proofs.YtjcecnlnmodkgaaDoor

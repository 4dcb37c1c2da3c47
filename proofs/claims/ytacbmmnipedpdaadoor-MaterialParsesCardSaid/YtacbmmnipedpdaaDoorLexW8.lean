/- Chapter 07: lists of lexemes in memory; Scan of the program, by walking its text. -/
import Derived.Test.YtacbmmnipedpdaaDoorLexW7
namespace Go.Proofs.YtacbmmnipedpdaaDoor
open Go Go.RowKit

/-- the cells of a lexeme. -/
def lxC (x : Lx) : List Value := [.int .i64 x.1, .string ⟨x.2.1.toArray⟩, .int .i64 x.2.2.1, .int .i64 x.2.2.2]
def Rep.lx : Rep Lx where
  size := 4
  R _ _ x cs := cs = lxC x
  len := by rintro _ _ _ _ rfl; rfl
  mono _ h := h
  keep _ h := h
theorem lx_info : (Tryd.prog.info? 81).map (fun i => (i.zero, i.size, i.bytes)) = some (some (.agg #[.int .i64 0, .string ⟨#[]⟩, .int .i64 0, .int .i64 0]), 4, 40) := by kernel_rfl
def OwnLx (w : World) (base : Nat) (v : Value) (ls : List Lx) : Prop := w.ownsRow base 81 4 v ls.length (ls.flatMap lxC)
theorem ownLx_snoc {w : World} {base : Nat} {v : Value} {ls : List Lx} {x : Lx} (h : w.ownsRow base 81 4 v (ls.length + 1) (ls.flatMap lxC ++ lxC x)) : OwnLx w base v (ls ++ [x]) := by
  unfold OwnLx
  rw [List.length_append, List.flatMap_append, List.flatMap_cons, List.flatMap_nil, List.append_nil]
  exact h
theorem ownLx_rep {w : World} {base : Nat} {v : Value} {ls : List Lx} (h : OwnLx w base v ls) : Rep.lx.slice.R w (Lt w) ls [v] :=
  own_enc (E := Rep.lx) (enc := lxC) (fun _ => rfl) (by decide) h (fun _ _ => rfl)
theorem new4_cells (w : World) (a b c d : Value) (e : TypeId) : ∀ j x, [a, b, c, d][j]? = some x → (w.alloc (.cells #[a, b, c, d] e)).cell? ((⟨w.heap.size, 0, none⟩ : Addr).add j) = some x := by
  intro j x hj
  match j, hj with
  | 0, hj => simp at hj; subst hj; simp [Addr.add]
  | 1, hj => simp at hj; subst hj; simp [Addr.add]
  | 2, hj => simp at hj; subst hj; simp [Addr.add]
  | 3, hj => simp at hj; subst hj; simp [Addr.add]
theorem lx_one (x : Lx) : ∀ u ∈ lxC x, u.oneCell' = true := by
  intro u hu
  simp [lxC] at hu
  rcases hu with rfl | rfl | rfl | rfl <;> rfl
theorem skip_ge {D : List UInt8} {i j : Nat} (hj : j ≤ D.length) (hi : i ≤ D.length) (h : D.drop j = lxSkip false (D.drop i)) : i ≤ j := by
  have h1 := congrArg List.length h
  have h2 := skip_len false (D.drop i)
  rw [List.length_drop] at h1 h2
  omega
theorem scanF_skip (i : Int) (l : List UInt8) : scanF i l = scanF (i + l.length - (lxSkip false l).length) (lxSkip false l) := by
  have hss := skip_skip false l
  cases hs : lxSkip false l with
  | nil =>
    rw [scanF_end hs, scanF_end (l := []) (by simp [lxSkip])]
    simp
  | cons c t =>
    rw [hs] at hss
    by_cases ho : (lxOne (c :: t)).2.2.2.2 = 0
    · rw [scanF_step hs (by simp) ho, scanF_step hss (by simp) ho]
      have : i + (l.length : Int) - ((c :: t).length : Int) + ((c :: t).length : Int) - ((c :: t).length : Int) = i + (l.length : Int) - ((c :: t).length : Int) := by omega
      rw [this]
    · rw [scanF_bad hs (by simp) ho, scanF_bad hss (by simp) ho]
      have : i + (l.length : Int) - ((c :: t).length : Int) + ((c :: t).length : Int) - ((c :: t).length : Int) = i + (l.length : Int) - ((c :: t).length : Int) := by omega
      rw [this]
def comb (acc : List Lx) (r : List Lx × Int × Int) : List Lx × Int × Int := if r.2.1 = 0 then (acc ++ r.1, 0, 0) else r
theorem scanF_zero (n : Nat) (i : Int) (l : List UInt8) (hl : l.length ≤ n) (h : (scanF i l).2.1 = 0) : (scanF i l).2.2 = 0 := by
  have := lexes_scan (scan_lexes n i l hl h)
  rw [this]
/-- Scan of a whole text. -/
def scanS (D : List UInt8) : List Lx × Int × Int := if 16384 < D.length then ([], 4, 16384) else scanF 0 D
/-- where a scan stands. -/
def ScAt (s : ByteArray) (acc : List Lx) (k : Nat) : Prop := lxSkip false (s.data.toList.drop k) = s.data.toList.drop k ∧ comb acc (scanF k (s.data.toList.drop k)) = scanF 0 s.data.toList
theorem ScAt.done {s : ByteArray} {acc : List Lx} {k : Nat} (h : ScAt s acc k) (hk : k = s.size) : scanF 0 s.data.toList = (acc ++ [(0, [], 0, (s.size : Int))], 0, 0) := by
  rw [← h.2, List.drop_of_length_le (by rw [size_list]; omega), scanF_end (l := []) (by simp [lxSkip]), hk]
  simp [comb]
theorem ScAt.bad {s : ByteArray} {acc : List Lx} {k : Nat} {c : UInt8} {t : List UInt8} (h : ScAt s acc k) (hd : s.data.toList.drop k = c :: t) (ho : (lxOne (c :: t)).2.2.2.2 ≠ 0) : scanF 0 s.data.toList = ([], (lxOne (c :: t)).2.2.2.2, (k : Int) + (lxOne (c :: t)).2.2.2.1) := by
  obtain ⟨h1, h2⟩ := h
  rw [hd] at h1 h2
  rw [← h2, scanF_bad h1 (by simp) ho, comb, if_neg ho]
  refine Prod.ext rfl (Prod.ext rfl ?_)
  simp only; omega
theorem ScAt.step {s : ByteArray} {acc : List Lx} {k j : Nat} {c : UInt8} {t : List UInt8} (h : ScAt s acc k) (hd : s.data.toList.drop k = c :: t) (ho : (lxOne (c :: t)).2.2.2.2 = 0) (hj : j ≤ s.size) (hjd : s.data.toList.drop j = lxSkip false (s.data.toList.drop (k + (lxOne (c :: t)).2.2.2.1))) :
    ScAt s (acc ++ [oneX (lxOne (c :: t)) k]) j := by
  obtain ⟨h1, h2⟩ := h
  rw [hd] at h1 h2
  refine ⟨by rw [hjd]; exact skip_skip _ _, ?_⟩
  rw [← h2, scanF_step h1 (by simp) ho]
  have hlen := one_len c t
  have hct : t.length + 1 = s.size - k := by
    have := congrArg List.length hd
    rw [List.length_drop, size_list, List.length_cons] at this; exact this.symm
  have e1 : (c :: t).drop (lxOne (c :: t)).2.2.2.1 = s.data.toList.drop (k + (lxOne (c :: t)).2.2.2.1) := by rw [← hd, List.drop_drop]
  have e2 : (k : Int) + ((c :: t).length : Int) - ((c :: t).length : Int) = (k : Int) := by omega
  have hb : k + (lxOne (c :: t)).2.2.2.1 ≤ s.size := by have := hlen.1; omega
  have hge := skip_ge (by rw [size_list]; exact hj) (by rw [size_list]; exact hb) hjd
  have e3 := scanF_skip ((k : Int) + ((lxOne (c :: t)).2.2.2.1 : Int)) (s.data.toList.drop (k + (lxOne (c :: t)).2.2.2.1))
  rw [← hjd] at e3
  have e4 : (k : Int) + ((lxOne (c :: t)).2.2.2.1 : Int) + ((s.data.toList.drop (k + (lxOne (c :: t)).2.2.2.1)).length : Int) - ((s.data.toList.drop j).length : Int) = (j : Int) := by
    rw [List.length_drop, List.length_drop, size_list]; omega
  rw [e4] at e3
  rw [e1, e2, e3]
  have hx : oneX (lxOne (c :: t)) k = ((lxOne (c :: t)).1, (lxOne (c :: t)).2.1, (lxOne (c :: t)).2.2.1, (k : Int)) := by unfold oneX; rw [if_pos ho]
  rw [hx]
  unfold comb
  by_cases hr : (scanF (j : Int) (s.data.toList.drop j)).2.1 = 0
  · rw [if_pos hr, if_pos hr, if_pos rfl, List.append_assoc]; rfl
  · rw [if_neg hr, if_neg hr, if_neg hr]
theorem ScAt.start {s : ByteArray} {j : Nat} (hj : j ≤ s.size) (hjd : s.data.toList.drop j = lxSkip false (s.data.toList.drop 0)) : ScAt s [] j := by
  refine ⟨by rw [hjd]; exact skip_skip _ _, ?_⟩
  have e3 := scanF_skip 0 s.data.toList
  rw [List.drop_zero] at hjd
  rw [← hjd] at e3
  have e4 : (0 : Int) + (s.data.toList.length : Int) - ((s.data.toList.drop j).length : Int) = (j : Int) := by
    rw [List.length_drop, size_list]; omega
  rw [e4] at e3
  rw [e3]
  unfold comb
  by_cases hr : (scanF (j : Int) (s.data.toList.drop j)).2.1 = 0
  · rw [if_pos hr, List.nil_append]
    exact Prod.ext rfl (Prod.ext hr.symm (scanF_zero _ _ _ (Nat.le_refl _) hr).symm)
  · rw [if_neg hr]
def ScanPost (D : List UInt8) (w : World) (e : Ending) (w' : World) : Prop := ∃ v, e = .returned (.tuple #[v, .int .i64 (scanS D).2.1, .int .i64 (scanS D).2.2]) ∧ Rep.lx.slice.R w' (Lt w') (scanS D).1 [v] ∧ Below w.heap.size w w'
theorem oneX_cells (o : One) (i : Nat) : ∃ (k1 : Int) (k2 : ByteArray) (k3 k4 k5 k6 : Int), oneV o i = .tuple #[.agg #[.int .i64 k1, .string k2, .int .i64 k3, .int .i64 k4], .int .i64 k5, .int .i64 k6] ∧ lxC (oneX o i) = [.int .i64 k1, .string k2, .int .i64 k3, .int .i64 k4] ∧ k5 = (i : Int) + (o.2.2.2.1 : Int) ∧ k6 = o.2.2.2.2 := ⟨_, _, _, _, _, _, rfl, rfl, rfl, rfl⟩
set_option maxRecDepth 100000 in
set_option maxHeartbeats 4000000 in
theorem scan_any (s : ByteArray) (w : World) (hz : s.size ≤ 140737488350000) : Calls Tryd.prog 43 #[.string s] w (ScanPost s.data.toList w) := by
  by_cases hbig : 16384 < s.size
  · have HS : Hid (scanS s.data.toList = ([], 4, 16384)) := by show _ = _; unfold scanS; rw [if_pos (by rw [size_list]; exact hbig)]
    go_enter Tryd.func43, Tryd.ntmps43
    go_wp2_with fail
    go_ret3
    unfold ScanPost
    rw [HS.out]
    exact ⟨_, rfl, Rep.slice_nil _ _ _, Below.refl _ _⟩
  have HS : Hid (scanS s.data.toList = scanF 0 s.data.toList) := by show _ = _; unfold scanS; rw [if_neg (by rw [size_list]; exact hbig)]
  obtain ⟨i0, hi, hz0, hz1, hz2⟩ := info_parts lx_info
  go_enter Tryd.func43, Tryd.ntmps43
  go_wp2_with fail
  refine (skip_any s 0 _ (by omega) (by omega)).mono ?_
  rintro e w1 ⟨j0, rfl, hj0, hjd0, rfl⟩
  have H0 := Lib.hid (ScAt.start hj0 hjd0)
  clear hjd0
  go_wp2_with fail
  go_loopw [5, 7] (fun l i wr => ∃ (k : Nat) (acc : List Lx), k ≤ s.size ∧ i = .int .i64 k ∧ acc.length ≤ k ∧ OwnLx wr w.heap.size l acc ∧ Below w.heap.size w wr ∧ Hid (ScAt s acc k)) (fun _ i _ => s.size - (intOf i).toNat)
  case atStart => exact ⟨j0, [], hj0, rfl, by simp, World.ownsRow_nil _ _ _ _, Below.refl _ _, H0⟩
  case round =>
    obtain ⟨k, acc, hk, rfl, hal, hown, hbw, hA⟩ := hrel
    have hsz := hbw.size
    by_cases hlt : k < s.size
    · obtain ⟨c, t, hd, -, -⟩ := drop_at (D := s.data.toList) (k := k) (by rw [size_list]; exact hlt)
      have CN := Lib.hid (fun w => next_any s k c t w (by omega) hd)
      obtain ⟨k1, k2, k3, k4, k5, k6, hO, hC, hk5, hk6⟩ := oneX_cells (lxOne (c :: t)) k
      rw [hO] at CN
      have HC := Lib.hid hC
      have HD := Lib.hid hd
      have hlen := one_len c t
      have hct : t.length + 1 = s.size - k := by
        have := congrArg List.length hd
        rw [List.length_drop, size_list, List.length_cons] at this; exact this.symm
      by_cases ho : (lxOne (c :: t)).2.2.2.2 = 0
      · obtain ⟨hl1, hl2⟩ := hlen
        have hp := hl2 ho
        have hk60 : k6 = 0 := by rw [hk6, ho]
        obtain ⟨n, hn⟩ : ∃ n, n = k + (lxOne (c :: t)).2.2.2.1 := ⟨_, rfl⟩
        have hk5n : k5 = (n : Int) := by rw [hk5, hn]; omega
        have HSTEP : Hid (∀ j, j ≤ s.size → s.data.toList.drop j = lxSkip false (s.data.toList.drop n) → ScAt s (acc ++ [oneX (lxOne (c :: t)) k]) j ∧ n ≤ j) := fun j hj hjd => by
          have hnb : n ≤ s.size := by omega
          refine ⟨?_, skip_ge (by rw [size_list]; exact hj) (by rw [size_list]; exact hnb) hjd⟩
          rw [hn] at hjd
          exact hA.out.step HD.out ho hj hjd
        have hnb : n ≤ s.size := by omega
        have hnk : k < n := by omega
        clear hd hO hC hk5 hl1 hl2 hp ho hk6 hct hn hA
        subst hk60
        subst hk5n
        generalize oneX (lxOne (c :: t)) k = x at *
        have CS := Lib.hid (fun w => skip_any s n w (by omega) hnb)
        go_wp2_with fail
        refine (CN.out _).mono ?_
        rintro e w1 ⟨rfl, hb1⟩
        have hown1 := own_below hown hb1
        have hs1 := hb1.size
        go_wp2_with (at_builtin; refine wpList_append_own _ rfl _ _ 70 rfl w.heap.size 81 i0 (.agg #[.int .i64 0, .string ⟨#[]⟩, .int .i64 0, .int .i64 0]) 4 40 Tryd.underlying70 hi hz0 hz1 hz2 rfl (by decide) _ _ _ rfl (World.ownsRow.alloc (World.ownsRow.alloc hown1 _) _) ⟨w1.heap.size + 1, 0, none⟩ 1 1 [.int .i64 k1, .string k2, .int .i64 k3, .int .i64 k4] rfl rfl (by simpa using new4_cells (w1.alloc (.cells #[.int .i64 k1, .string k2, .int .i64 k3, .int .i64 k4] 81)) (.int .i64 k1) (.string k2) (.int .i64 k3) (.int .i64 k4) 81) (by rw [← HC.out]; exact lx_one x) (by unfold maxLen; omega) (by omega) (by simp; omega) ?_)
        intro v2 w2 hown2 hg2 _
        rw [← HC.out] at hown2
        have hown3 := ownLx_snoc hown2
        have hbw1 := hbw.trans (hb1.mono hsz)
        have hbw2 := ((hbw1.alloc (by omega) (.cells #[.int .i64 k1, .string k2, .int .i64 k3, .int .i64 k4] 81)).alloc (by simp; omega) (.cells #[.int .i64 k1, .string k2, .int .i64 k3, .int .i64 k4] 81)).grown hg2 (by simp; omega) (fun j hj => (World.ownsRow.lt hown1 j hj).1)
        clear hown2 hg2
        go_wp2_with fail
        refine (CS.out _).mono ?_
        rintro e w3 ⟨j, rfl, hj, hjd, rfl⟩
        obtain ⟨hS, hnj⟩ := HSTEP.out j hj hjd
        have HS3 := Lib.hid hS
        clear hjd hS
        go_wp2_with fail
        go_roundw
        case rel => exact ⟨j, acc ++ [x], hj, rfl, by simp; omega, hown3, hbw2, HS3⟩
        case measure => simp [intOf] <;> omega
      · have HB := Lib.hid (hA.out.bad HD.out ho)
        rw [← hk5, ← hk6] at HB
        have hk60 : (k6 != 0) = true := ine_t (by rw [hk6]; exact ho)
        clear hd hO hC hk5 hk6 hlen ho hct hA
        go_wp2_with fail
        refine (CN.out _).mono ?_
        rintro e w1 ⟨rfl, hb1⟩
        go_wp2_with fail
        go_ret3
        unfold ScanPost
        rw [HS.out, HB.out]
        exact ⟨_, rfl, Rep.slice_nil _ _ _, (hbw.trans (hb1.mono hsz)).alloc (by have := hb1.size; omega) _⟩
    · obtain rfl : k = s.size := by omega
      have HB := Lib.hid (hA.out.done rfl)
      clear hA
      go_wp2_with (at_builtin; refine wpList_append_own _ rfl _ _ 70 rfl w.heap.size 81 i0 (.agg #[.int .i64 0, .string ⟨#[]⟩, .int .i64 0, .int .i64 0]) 4 40 Tryd.underlying70 hi hz0 hz1 hz2 rfl (by decide) _ _ _ rfl (World.ownsRow.alloc hown _) ⟨wr.heap.size, 0, none⟩ 1 1 [.int .i64 0, .string ⟨#[]⟩, .int .i64 0, .int .i64 (s.size : Int)] rfl rfl (new4_cells wr (.int .i64 0) (.string ⟨#[]⟩) (.int .i64 0) (.int .i64 (s.size : Int)) 81) (lx_one (0, [], 0, (s.size : Int))) (by unfold maxLen; omega) (by omega) (by simp; omega) ?_)
      intro v2 w2 hown2 hg2 _
      have hown3 := ownLx_snoc (x := (0, [], 0, (s.size : Int))) hown2
      have hbw2 := (hbw.alloc hsz _).grown hg2 (by simp; omega) (fun j hj => (World.ownsRow.lt hown j hj).1)
      clear hown2 hg2
      go_wp2_with fail
      go_ret3
      unfold ScanPost
      rw [HS.out, HB.out]
      exact ⟨_, rfl, ownLx_rep hown3, hbw2⟩
end Go.Proofs.YtacbmmnipedpdaaDoor

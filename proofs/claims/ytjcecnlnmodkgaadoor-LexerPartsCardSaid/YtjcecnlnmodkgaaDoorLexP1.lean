/- Chapter 07: Print of the program, by walking its text. -/
import Derived.Test.YtjcecnlnmodkgaaDoorLexQ2
import Derived.Test.YtjcecnlnmodkgaaDoorLexS1
import Derived.Test.YtjcecnlnmodkgaaDoorLexNum
namespace Go.Proofs.YtjcecnlnmodkgaaDoor
open Go Go.RowKit

def TabP (w : World) : Prop := Lib.TabIs Tryd.prog w "internal/strconv.uint64pow10" .u64 Lib.pow10Tab
theorem TabP.below {w w' : World} (h : TabP w) (hb : Below w.heap.size w w') : TabP w' := by
  unfold TabP Lib.TabIs at *
  unfold World.var? at *
  have hg : Tryd.prog.globalNamed "internal/strconv.uint64pow10" = some 1 := by kernel_rfl
  rw [hg] at h ⊢
  simp only [Option.bind_some] at h ⊢
  have hlt : 1 < w.heap.size := by
    rcases Nat.lt_or_ge 1 w.heap.size with h' | h'
    · exact h'
    · rw [Array.getElem?_eq_none h'] at h; cases h
  rw [hb.block _ hlt]
  exact h
theorem TabP.qt {w w' : World} (h : TabP w) (hq : Qt w w') : TabP w' := h.below (hq.below _)
theorem below_grow {w : World} (n : Nat) (os : Array Obj) : Below w.heap.size w (Go.Sort.grow (w.drewN n) os) :=
  ⟨rfl, rfl, rfl, by show w.heap.size ≤ (w.heap ++ os).size; simp, fun i hi => by
    show (w.heap ++ os)[i]? = w.heap[i]?
    rw [Array.getElem?_append_left hi]⟩
theorem itoa_any (n : Int) (w : World) (h : inI64 n) (hT : TabP w) : Calls Tryd.prog 29 #[.int .i64 n] w (Ret (.string ⟨(Lib.itoa n).toArray⟩) w) :=
  (Tryd.strconv_Itoa n h.1 h.2 w hT).mono fun _ _ ⟨h1, k, os, h2⟩ => ⟨h1, h2 ▸ below_grow k os⟩
theorem str_info : (Tryd.prog.info? 9).map (fun i => (i.zero, i.size, i.bytes)) = some (some (.string ⟨#[]⟩), 1, 16) := by kernel_rfl
def strsV (ws : List (List UInt8)) : List Value := ws.map fun x => .string ⟨x.toArray⟩
def OwnS (w : World) (base : Nat) (v : Value) (ws : List (List UInt8)) : Prop := w.ownsRow base 9 1 v ws.length (strsV ws)
theorem ownS_snoc {w : World} {base : Nat} {v : Value} {ws : List (List UInt8)} {x : List UInt8} {X : ByteArray} (hX : X = ⟨x.toArray⟩) (h : w.ownsRow base 9 1 v (ws.length + 1) (strsV ws ++ [.string X])) : OwnS w base v (ws ++ [x]) := by
  unfold OwnS strsV
  rw [List.length_append, List.map_append]
  subst hX
  exact h
theorem joinW_cons2 (x y : List UInt8) (r : List (List UInt8)) : joinW (x :: y :: r) = x ++ 32 :: joinW (y :: r) := rfl
theorem joinW_eq (ws : List (List UInt8)) : Lib.join ws [32] = joinW ws := by
  match ws with
  | [] => rfl
  | [x] => rw [Lib.join_one]; rfl
  | x :: y :: r =>
    have ih := joinW_eq (y :: r)
    rw [joinW_cons2, ← ih]
    rfl
theorem join_own {w : World} {base : Nat} {v : Value} {ws : List (List UInt8)} (h : OwnS w base v ws) (hn : ws.length ≤ 140737488355328) (hl : (joinW ws).length ≤ 140737488355328) :
    Calls Tryd.prog 30 #[v, .string ⟨#[32]⟩] w (Ret (.string ⟨(joinW ws).toArray⟩) w) := by
  have h0 := h
  unfold OwnS at h
  rcases h.2 with ⟨rfl, hz⟩ | ⟨g, cap, cur, rfl, hb, hh, hnc, hcm, hcs, ht⟩
  · have : ws = [] := List.eq_nil_of_length_eq_zero hz
    subst this
    exact (Tryd.strings_Join_none none 0 ⟨#[32]⟩ w).mono fun e w' ⟨h1, h2⟩ => ⟨h1, h2 ▸ Below.refl _ _⟩
  · have hm : (ws.map fun x => (⟨x.toArray⟩ : ByteArray)).map (·.data.toList) = ws := by rw [List.map_map]; exact List.map_id _
    have hlt := (World.ownsRow.lt h0 g rfl).2
    have := Tryd.strings_Join g 0 cap (ws.map fun x => (⟨x.toArray⟩ : ByteArray)) ⟨#[32]⟩ w (fun j x hj => by
      rw [List.getElem?_map] at hj
      obtain ⟨y, hy, rfl⟩ := Option.map_eq_some_iff.1 hj
      have hc := World.ownsRow.cells h0 (g := g) rfl j (.string ⟨y.toArray⟩) (by rw [strsV, List.getElem?_map, hy]; rfl)
      rw [← hc]; congr 1; simp [Addr.add]) hlt (by simpa using hn) (by simpa using hnc) (by rw [hm, show (⟨#[32]⟩ : ByteArray).data.toList = [32] from rfl, joinW_eq]; exact hl)
    rw [hm, show (⟨#[32]⟩ : ByteArray).data.toList = [32] from rfl, joinW_eq, List.length_map] at this
    exact this
/-- lexemes that Print may be asked of: what it needs to know of them. -/
def PrOk (l : List Lx) : Prop := l.length ≤ 20000 ∧ ∀ x ∈ l, x.2.1.length ≤ 16384 ∧ inI64 x.2.2.1
theorem itoa_len {n : Int} (h : inI64 n) : (Lib.itoa n).length ≤ 21 := by
  obtain ⟨h0, h1⟩ := h
  unfold Lib.itoa
  split
  · have := Lib.decDigits_length n.natAbs
    have h2 := Lib.nDigits_le20 n.natAbs (by omega)
    rw [List.length_cons]; omega
  · have := Lib.decDigits_length n.toNat
    have h2 := Lib.nDigits_le20 n.toNat (by omega)
    omega
theorem esc_flat_len (l : List UInt8) : (l.flatMap esc).length ≤ 2 * l.length := by
  induction l with
  | nil => simp
  | cons c l ih => have := esc_len c; rw [List.flatMap_cons, List.length_append, List.length_cons]; omega
theorem word_len {x : Lx} {v : List UInt8} (h : wordF x = some v) (h1 : x.2.1.length ≤ 16384) (h2 : inI64 x.2.2.1) : v.length ≤ 40000 := by
  unfold wordF at h
  split at h
  · injection h with h; subst h; omega
  · split at h
    · injection h with h; subst h; have := itoa_len h2; omega
    · split at h
      · split at h
        · rename_i hq
          injection h with h; subst h
          unfold quoteF at hq ⊢
          split
          · have := esc_flat_len x.2.1
            simp only [List.length_cons, List.length_append, List.length_nil]; omega
          · simp
        · cases h
      · cases h
theorem joinW_len : ∀ (ws : List (List UInt8)) (B : Nat), (∀ v ∈ ws, v.length ≤ B) → (joinW ws).length ≤ ws.length * (B + 1)
  | [], _, _ => by simp [joinW]
  | [x], B, h => by have := h x (by simp); simp [joinW]; omega
  | x :: y :: r, B, h => by
    have ih := joinW_len (y :: r) B (fun v hv => h v (by simp at hv ⊢; exact .inr hv))
    have := h x (by simp)
    rw [joinW_cons2, List.length_append, List.length_cons, List.length_cons (a := x), Nat.add_mul]
    omega
theorem words_len {l : List Lx} (h : PrOk l) (k : Nat) : (((l.take k).filterMap wordF).length ≤ 20000) ∧ (joinW ((l.take k).filterMap wordF)).length ≤ 900000000 := by
  have h1 : ((l.take k).filterMap wordF).length ≤ 20000 := by
    have h2 := List.length_filterMap_le wordF (l.take k)
    have h4 : (l.take k).length ≤ l.length := by rw [List.length_take]; omega
    have := h.1
    omega
  refine ⟨h1, ?_⟩
  have := joinW_len ((l.take k).filterMap wordF) 40000 (fun v hv => by
    obtain ⟨x, hx, hw⟩ := List.mem_filterMap.1 hv
    have hxl := h.2 x (List.mem_of_mem_take hx)
    exact word_len hw hxl.1 hxl.2)
  have h2 := Nat.mul_le_mul_right 40001 h1
  omega
theorem filt_some {l : List Lx} {k : Nat} {x : Lx} {v : List UInt8} (h : l[k]? = some x) (hw : wordF x = some v) : (l.take (k + 1)).filterMap wordF = (l.take k).filterMap wordF ++ [v] := by
  rw [take_one h, List.filterMap_append]; simp [hw]
theorem filt_none {l : List Lx} {k : Nat} {x : Lx} (h : l[k]? = some x) (hw : wordF x = none) : (l.take (k + 1)).filterMap wordF = (l.take k).filterMap wordF := by
  rw [take_one h, List.filterMap_append]; simp [hw]
/-- the kinds, as Print meets them. -/
theorem kind_cases (k : Int) : (k == 1) = true ∨ ((k == 1) = false ∧ (k == 4) = true) ∨ ((k == 1) = false ∧ (k == 4) = false ∧ (k == 2) = true) ∨ ((k == 1) = false ∧ (k == 4) = false ∧ (k == 2) = false ∧ (k == 3) = true) ∨ ((k == 1) = false ∧ (k == 4) = false ∧ (k == 2) = false ∧ (k == 3) = false) := by
  cases h1 : (k == 1) <;> cases h4 : (k == 4) <;> cases h2 : (k == 2) <;> cases h3 : (k == 3) <;> simp_all
set_option maxRecDepth 100000 in
set_option maxHeartbeats 8000000 in
theorem print_any (va : Value) (l : List Lx) (w : World) (ha : Rep.lx.slice.R w (Lt w) l [va]) (hok : PrOk l) (hT : TabP w) :
    Calls Tryd.prog 17 #[va] w (Ret (.string ⟨(printF l).toArray⟩) w) := by
  obtain ⟨A, c, rfl, hma, -⟩ := slice_inv ha
  obtain ⟨i0, hinf, hz0, hz1, hz2⟩ := info_parts str_info
  have HT := Lib.hid hT
  have HWL := Lib.hid (words_len hok)
  have HOK := Lib.hid hok.2
  have hl2 := hok.1
  clear hT hok
  go_enter Tryd.func17, Tryd.ntmps17
  go_wp2_with fail
  go_loopw [3, 10] (fun o i wr => ∃ (k : Nat) (ws : List (List UInt8)), k ≤ l.length ∧ i = .int .i64 k ∧ ws.length ≤ k ∧ OwnS wr w.heap.size o ws ∧ Below w.heap.size w wr ∧ Hid (ws = (l.take k).filterMap wordF)) (fun _ i _ => l.length - (intOf i).toNat)
  case atStart => exact ⟨0, [], by omega, rfl, by simp, World.ownsRow_nil _ _ _ _, Below.refl _ _, by show _ = _; simp⟩
  case round =>
    obtain ⟨k, ws, hk, rfl, hwl, hown, hbw, hE⟩ := hrel
    have hsz := hbw.size
    have hTr := Lib.hid (HT.out.below hbw)
    by_cases hlt : k < l.length
    · obtain ⟨b, off, x1, x2, x3, x4, rfl, hx, hbD, a0, a1, a2, a3⟩ := lx_at (Rep.at_ ha hbw) hlt
      have hmem : (x1, x2, x3, x4) ∈ l := List.mem_of_getElem? hx.out
      obtain ⟨hxl, hxn⟩ := HOK.out _ hmem
      have hbD' : b < wr.heap.size := Nat.lt_of_lt_of_le hbD hsz
      obtain ⟨X, hX⟩ : ∃ X : ByteArray, X = ⟨x2.toArray⟩ := ⟨_, rfl⟩
      rw [← hX] at a1
      have HX := Lib.hid hX
      have hXs : X.size ≤ 16384 := by rw [← size_list, hX]; exact hxl
      have HI := Lib.hid hxn
      clear hX hmem hxn
      have HS := fun v hw => Lib.hid (filt_some (v := v) hx.out hw)
      have HN := fun hw => Lib.hid (filt_none hx.out hw)
      rcases kind_cases x1 with k1 | ⟨k1, k4⟩ | ⟨k1, k4, k2⟩ | ⟨k1, k4, k2, k3⟩ | ⟨k1, k4, k2, k3⟩
      · have HW := HS x2 (by unfold wordF; rw [if_pos (.inl (by simpa using k1))])
        clear HS HN hxl
        go_wp2_with (at_builtin; refine wpList_append_own _ rfl _ _ 55 rfl w.heap.size 9 i0 (.string ⟨#[]⟩) 1 16 Tryd.underlying55 hinf hz0 hz1 hz2 rfl (by decide) _ _ _ rfl (World.ownsRow.alloc (World.ownsRow.alloc hown _) _) ⟨wr.heap.size + 1, 0, none⟩ 1 1 [.string X] rfl rfl (by simpa using new1_cells (wr.alloc (.cells #[.int .i64 x1, .string X, .int .i64 x3, .int .i64 x4] 35)) (.string X) 9) (one_oneCell rfl) (by unfold maxLen; omega) (by omega) (by simp; omega) ?_)
        intro v2 w2 hown2 hg2 _
        have hown3 := ownS_snoc HX.out hown2
        have hbw2 := ((hbw.alloc hsz (.cells #[.int .i64 x1, .string X, .int .i64 x3, .int .i64 x4] 35)).alloc (by simp; omega) (.cells #[.string X] 9)).grown hg2 (by simp; omega) (fun j hj => (World.ownsRow.lt hown j hj).1)
        clear hown2 hg2
        go_wp2_with fail
        go_roundw
        case rel => exact ⟨k + 1, ws ++ [x2], by omega, by go_num, by simp; omega, hown3, hbw2, by show _ = _; rw [HW.out, hE.out]⟩
        case measure => simp [intOf] <;> omega
      · have HW := HS x2 (by unfold wordF; rw [if_pos (.inr (by simpa using k4))])
        clear HS HN hxl
        go_wp2_with (at_builtin; refine wpList_append_own _ rfl _ _ 55 rfl w.heap.size 9 i0 (.string ⟨#[]⟩) 1 16 Tryd.underlying55 hinf hz0 hz1 hz2 rfl (by decide) _ _ _ rfl (World.ownsRow.alloc (World.ownsRow.alloc hown _) _) ⟨wr.heap.size + 1, 0, none⟩ 1 1 [.string X] rfl rfl (by simpa using new1_cells (wr.alloc (.cells #[.int .i64 x1, .string X, .int .i64 x3, .int .i64 x4] 35)) (.string X) 9) (one_oneCell rfl) (by unfold maxLen; omega) (by omega) (by simp; omega) ?_)
        intro v2 w2 hown2 hg2 _
        have hown3 := ownS_snoc HX.out hown2
        have hbw2 := ((hbw.alloc hsz (.cells #[.int .i64 x1, .string X, .int .i64 x3, .int .i64 x4] 35)).alloc (by simp; omega) (.cells #[.string X] 9)).grown hg2 (by simp; omega) (fun j hj => (World.ownsRow.lt hown j hj).1)
        clear hown2 hg2
        go_wp2_with fail
        go_roundw
        case rel => exact ⟨k + 1, ws ++ [x2], by omega, by go_num, by simp; omega, hown3, hbw2, by show _ = _; rw [HW.out, hE.out]⟩
        case measure => simp [intOf] <;> omega
      · have n1 : ¬ (x1 = 1 ∨ x1 = 4) := by simp at k1 k4; omega
        have HW := HS (Lib.itoa x3) (by unfold wordF; rw [if_neg n1, if_pos (by simpa using k2)])
        clear HS HN hxl n1
        obtain ⟨wx, hwx⟩ : ∃ wx, wx = wr.alloc (.cells #[.int .i64 x1, .string X, .int .i64 x3, .int .i64 x4] 35) := ⟨_, rfl⟩
        have hTx : TabP wx := by rw [hwx]; exact hTr.out.below ((Below.refl _ _).alloc (Nat.le_refl _) _)
        have HCI := Lib.hid (itoa_any x3 wx HI.out hTx)
        rw [hwx] at HCI
        clear hTx hwx
        go_wp2_with fail
        refine (HCI.out).mono ?_
        rintro e w1 ⟨rfl, hb1⟩
        have hown1 := own_below (World.ownsRow.alloc hown (.cells #[.int .i64 x1, .string X, .int .i64 x3, .int .i64 x4] 35)) hb1
        have hbw1 := (hbw.alloc hsz (.cells #[.int .i64 x1, .string X, .int .i64 x3, .int .i64 x4] 35)).trans (hb1.mono (by simp; omega))
        have hs1 := hbw1.size
        go_wp2_with (at_builtin; refine wpList_append_own _ rfl _ _ 55 rfl w.heap.size 9 i0 (.string ⟨#[]⟩) 1 16 Tryd.underlying55 hinf hz0 hz1 hz2 rfl (by decide) _ _ _ rfl (World.ownsRow.alloc hown1 _) ⟨w1.heap.size, 0, none⟩ 1 1 [.string ⟨(Lib.itoa x3).toArray⟩] rfl rfl (new1_cells _ _ _) (one_oneCell rfl) (by unfold maxLen; omega) (by omega) (by simp; omega) ?_)
        intro v2 w2 hown2 hg2 _
        have hown3 := ownS_snoc (x := Lib.itoa x3) rfl hown2
        have hbw2 := (hbw1.alloc hs1 (.cells #[.string ⟨(Lib.itoa x3).toArray⟩] 9)).grown hg2 (by simp; omega) (fun j hj => (World.ownsRow.lt hown1 j hj).1)
        clear hown2 hg2
        go_wp2_with fail
        go_roundw
        case rel => exact ⟨k + 1, ws ++ [Lib.itoa x3], by omega, by go_num, by simp; omega, hown3, hbw2, by show _ = _; rw [HW.out, hE.out]⟩
        case measure => simp [intOf] <;> omega
      · have n1 : ¬ (x1 = 1 ∨ x1 = 4) := by simp at k1 k4; omega
        have n2 : ¬ x1 = 2 := by simpa using k2
        have n3 : x1 = 3 := by simpa using k3
        have HCQ := Lib.hid (fun w => quote_any X w (by omega))
        unfold QuoteRet at HCQ
        rw [HX.out] at HCQ
        rw [show (⟨x2.toArray⟩ : ByteArray).data.toList = x2 from rfl, ← HX.out] at HCQ
        have HS' := fun hq => HS (quoteF x2).1 (by unfold wordF; rw [if_neg n1, if_neg n2, if_pos n3, if_pos hq])
        have HN' := fun hq => HN (by unfold wordF; rw [if_neg n1, if_neg n2, if_pos n3, if_neg hq])
        obtain ⟨q, hq⟩ : ∃ q, quoteF x2 = q := ⟨_, rfl⟩
        rw [hq] at HCQ HS' HN'
        obtain ⟨q1, q2⟩ := q
        clear HS HN hxl n1 n2 n3 hq
        by_cases hq0 : q2 = 0
        · have HW := HS' hq0
          subst hq0
          clear HS' HN'
          go_wp2_with fail
          refine (HCQ.out _).mono ?_
          rintro e w1 ⟨rfl, hb1⟩
          have hown1 := own_below (World.ownsRow.alloc hown (.cells #[.int .i64 x1, .string X, .int .i64 x3, .int .i64 x4] 35)) hb1
          have hbw1 := (hbw.alloc hsz (.cells #[.int .i64 x1, .string X, .int .i64 x3, .int .i64 x4] 35)).trans (hb1.mono (by simp; omega))
          have hs1 := hbw1.size
          go_wp2_with (at_builtin; refine wpList_append_own _ rfl _ _ 55 rfl w.heap.size 9 i0 (.string ⟨#[]⟩) 1 16 Tryd.underlying55 hinf hz0 hz1 hz2 rfl (by decide) _ _ _ rfl (World.ownsRow.alloc hown1 _) ⟨w1.heap.size, 0, none⟩ 1 1 [.string ⟨q1.toArray⟩] rfl rfl (new1_cells _ _ _) (one_oneCell rfl) (by unfold maxLen; omega) (by omega) (by simp; omega) ?_)
          intro v2 w2 hown2 hg2 _
          have hown3 := ownS_snoc (x := q1) rfl hown2
          have hbw2 := (hbw1.alloc hs1 (.cells #[.string ⟨q1.toArray⟩] 9)).grown hg2 (by simp; omega) (fun j hj => (World.ownsRow.lt hown1 j hj).1)
          clear hown2 hg2
          go_wp2_with fail
          go_roundw
          case rel => exact ⟨k + 1, ws ++ [q1], by omega, by go_num, by simp; omega, hown3, hbw2, by show _ = _; rw [HW.out, hE.out]⟩
          case measure => simp [intOf] <;> omega
        · have HW := HN' hq0
          have hqn : (q2 == 0) = false := ieq_f hq0
          clear HS' HN' hq0
          go_wp2_with fail
          refine (HCQ.out _).mono ?_
          rintro e w1 ⟨rfl, hb1⟩
          have hown1 := own_below (World.ownsRow.alloc hown (.cells #[.int .i64 x1, .string X, .int .i64 x3, .int .i64 x4] 35)) hb1
          have hbw1 := (hbw.alloc hsz (.cells #[.int .i64 x1, .string X, .int .i64 x3, .int .i64 x4] 35)).trans (hb1.mono (by simp; omega))
          go_wp2_with fail
          go_roundw
          case rel => exact ⟨k + 1, ws, by omega, by go_num, by omega, hown1, hbw1, by show _ = _; rw [HW.out, hE.out]⟩
          case measure => simp [intOf] <;> omega
      · have n1 : ¬ (x1 = 1 ∨ x1 = 4) := by simp at k1 k4; omega
        have n2 : ¬ x1 = 2 := by simpa using k2
        have n3 : ¬ x1 = 3 := by simpa using k3
        have HW := HN (by unfold wordF; rw [if_neg n1, if_neg n2, if_neg n3])
        clear HS HN hxl n1 n2 n3
        go_wp2_with fail
        go_roundw
        case rel => exact ⟨k + 1, ws, by omega, by go_num, by omega, World.ownsRow.alloc hown _, hbw.alloc hsz _, by show _ = _; rw [HW.out, hE.out]⟩
        case measure => simp [intOf] <;> omega
    · obtain rfl : k = l.length := by omega
      have hJ := join_own hown (by omega) (by rw [hE.out]; have := (HWL.out l.length).2; omega)
      have HJ := Lib.hid hJ
      have HP : Hid (printF l = joinW ws) := by show _ = _; rw [hE.out, List.take_length]; rfl
      clear hJ hE
      go_wp2_with fail
      refine (HJ.out).mono ?_
      rintro e w1 ⟨rfl, hb1⟩
      go_wp2_with fail
      go_ret
      exact ⟨by have := HP.out; simp [this], hbw.trans (hb1.mono hsz)⟩
end Go.Proofs.YtjcecnlnmodkgaaDoor

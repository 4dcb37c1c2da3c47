/- Chapter 07: Print of the reference, by walking its text. -/
import Derived.Test.YtjcecnlnmodkgaaDoorLexP1
namespace Go.Proofs.YtjcecnlnmodkgaaDoor
open Go Go.RowKit

theorem joinW_snoc : ∀ (ws : List (List UInt8)) (v : List UInt8), joinW (ws ++ [v]) = if ws.isEmpty = true then v else joinW ws ++ 32 :: v
  | [], v => rfl
  | [x], v => rfl
  | x :: y :: r, v => by
    have ih := joinW_snoc (y :: r) v
    rw [show ((x :: y :: r) ++ [v]) = x :: ((y :: r) ++ [v]) from rfl, show ((y :: r) ++ [v]) = y :: (r ++ [v]) from rfl, joinW_cons2, joinW_cons2]
    rw [show ((y :: r) ++ [v]) = y :: (r ++ [v]) from rfl] at ih
    rw [ih]
    simp
/-- what stands, and whether anything does. -/
def PrAt (l : List Lx) (k : Nat) (S : ByteArray) (b : Bool) : Prop := S = ⟨(joinW ((l.take k).filterMap wordF)).toArray⟩ ∧ b = !((l.take k).filterMap wordF).isEmpty
theorem prAt_none {l : List Lx} {k : Nat} {x : Lx} {S : ByteArray} {b : Bool} (h : PrAt l k S b) (hx : l[k]? = some x) (hw : wordF x = none) : PrAt l (k + 1) S b := by
  unfold PrAt; rw [filt_none hx hw]; exact h
theorem arr_app (a b : List UInt8) : (⟨a.toArray⟩ ++ ⟨b.toArray⟩ : ByteArray) = ⟨(a ++ b).toArray⟩ := by
  apply ByteArray.ext
  apply Array.toList_inj.1
  simp
theorem prAt_first {l : List Lx} {k : Nat} {x : Lx} {S V : ByteArray} {v : List UInt8} (h : PrAt l k S false) (hx : l[k]? = some x) (hw : wordF x = some v) (hV : V = ⟨v.toArray⟩) : PrAt l (k + 1) (S ++ V) true := by
  obtain ⟨h1, h2⟩ := h
  have he : ((l.take k).filterMap wordF).isEmpty = true := by simpa using h2.symm
  have hn : (l.take k).filterMap wordF = [] := by simpa using he
  refine ⟨?_, ?_⟩
  · rw [filt_some hx hw, joinW_snoc, if_pos he, h1, hn, hV, arr_app]; rfl
  · rw [filt_some hx hw]; simp
theorem prAt_more {l : List Lx} {k : Nat} {x : Lx} {S V : ByteArray} {v : List UInt8} (h : PrAt l k S true) (hx : l[k]? = some x) (hw : wordF x = some v) (hV : V = ⟨v.toArray⟩) : PrAt l (k + 1) (S ++ ⟨#[32]⟩ ++ V) true := by
  obtain ⟨h1, h2⟩ := h
  have he : ((l.take k).filterMap wordF).isEmpty = false := by simpa using h2.symm
  refine ⟨?_, ?_⟩
  · rw [filt_some hx hw, joinW_snoc, if_neg (by rw [he]; simp), h1, hV, show (⟨#[32]⟩ : ByteArray) = ⟨[32].toArray⟩ from rfl, arr_app, arr_app]; simp
  · rw [filt_some hx hw]; simp
theorem prAt_size {l : List Lx} (h : PrOk l) {k : Nat} {S : ByteArray} {b : Bool} (hp : PrAt l k S b) : S.size ≤ 900000000 := by
  rw [← size_list, hp.1]; exact (words_len h k).2
set_option maxRecDepth 100000 in
set_option maxHeartbeats 8000000 in
theorem refPrint_any (va : Value) (l : List Lx) (w : World) (ha : Rep.lx.slice.R w (Lt w) l [va]) (hok : PrOk l) :
    Calls Tryd.prog 18 #[va] w (Ret (.string ⟨(printF l).toArray⟩) w) := by
  obtain ⟨A, c, rfl, hma, -⟩ := slice_inv ha
  have HSZ := Lib.hid (fun k S b => prAt_size (k := k) (S := S) (b := b) hok)
  have HOK := Lib.hid hok
  have hl2 := hok.1
  clear hok
  go_enter Tryd.func18, Tryd.ntmps18
  go_wp2_with fail
  go_loopw [3, 4, 5] (fun o y i wr => ∃ (k : Nat) (S : ByteArray) (b : Bool), k ≤ l.length ∧ i = .int .i64 k ∧ o = .string S ∧ y = .bool b ∧ Below w.heap.size w wr ∧ Hid (PrAt l k S b)) (fun _ _ i _ => l.length - (intOf i).toNat)
  case atStart => exact ⟨0, ⟨#[]⟩, false, by omega, rfl, rfl, rfl, Below.refl _ _, by show PrAt _ _ _ _; exact ⟨rfl, rfl⟩⟩
  case round =>
    obtain ⟨k, S, bs, hk, rfl, rfl, rfl, hbw, hP⟩ := hrel
    have hsz := hbw.size
    have hSs := HSZ.out k S bs hP.out
    by_cases hlt : k < l.length
    · obtain ⟨b, off, x1, x2, x3, x4, rfl, hx, hbD, a0, a1, a2, a3⟩ := lx_at (Rep.at_ ha hbw) hlt
      have hmem : (x1, x2, x3, x4) ∈ l := List.mem_of_getElem? hx.out
      obtain ⟨hxl, hxn⟩ := HOK.out.2 _ hmem
      obtain ⟨X, hX⟩ : ∃ X : ByteArray, X = ⟨x2.toArray⟩ := ⟨_, rfl⟩
      rw [← hX] at a1
      have HX := Lib.hid hX
      have hXs : X.size ≤ 16384 := by rw [← size_list, hX]; exact hxl
      have HI := Lib.hid hxn
      clear hX hmem hxn
      have HN := fun hw => Lib.hid (prAt_none hP.out hx.out hw)
      have HS1 : ∀ (V : ByteArray) (v : List UInt8), wordF (x1, x2, x3, x4) = some v → V = ⟨v.toArray⟩ → bs = false → Hid (PrAt l (k + 1) (S ++ V) true) := fun V v hw hV hb => by subst hb; exact prAt_first hP.out hx.out hw hV
      have HS2 : ∀ (V : ByteArray) (v : List UInt8), wordF (x1, x2, x3, x4) = some v → V = ⟨v.toArray⟩ → bs = true → Hid (PrAt l (k + 1) (S ++ ⟨#[32]⟩ ++ V) true) := fun V v hw hV hb => by subst hb; exact prAt_more hP.out hx.out hw hV
      rcases kind_cases x1 with k1 | ⟨k1, k4⟩ | ⟨k1, k4, k2⟩ | ⟨k1, k4, k2, k3⟩ | ⟨k1, k4, k2, k3⟩
      · have hw : wordF (x1, x2, x3, x4) = some x2 := by unfold wordF; rw [if_pos (.inl (by simpa using k1))]
        have H1 := HS1 X x2 hw HX.out
        have H2 := HS2 X x2 hw HX.out
        clear HN HS1 HS2 hxl hw
        cases bs
        · have H3 := H1 rfl
          clear H1 H2
          go_wp2_with fail
          go_roundw
          case rel => exact ⟨k + 1, _, true, by omega, by go_num, rfl, rfl, hbw, H3⟩
          case measure => simp [intOf] <;> omega
        · have H3 := H2 rfl
          clear H1 H2
          go_wp2_with fail
          go_roundw
          case rel => exact ⟨k + 1, _, true, by omega, by go_num, rfl, rfl, hbw, H3⟩
          case measure => simp [intOf] <;> omega
      · have hw : wordF (x1, x2, x3, x4) = some x2 := by unfold wordF; rw [if_pos (.inr (by simpa using k4))]
        have H1 := HS1 X x2 hw HX.out
        have H2 := HS2 X x2 hw HX.out
        clear HN HS1 HS2 hxl hw
        cases bs
        · have H3 := H1 rfl
          clear H1 H2
          go_wp2_with fail
          go_roundw
          case rel => exact ⟨k + 1, _, true, by omega, by go_num, rfl, rfl, hbw, H3⟩
          case measure => simp [intOf] <;> omega
        · have H3 := H2 rfl
          clear H1 H2
          go_wp2_with fail
          go_roundw
          case rel => exact ⟨k + 1, _, true, by omega, by go_num, rfl, rfl, hbw, H3⟩
          case measure => simp [intOf] <;> omega
      · have n1 : ¬ (x1 = 1 ∨ x1 = 4) := by simp at k1 k4; omega
        have hw : wordF (x1, x2, x3, x4) = some (Lib.itoa x3) := by unfold wordF; rw [if_neg n1, if_pos (by simpa using k2)]
        obtain ⟨V, hV⟩ : ∃ V : ByteArray, V = ⟨(Lib.itoa x3).toArray⟩ := ⟨_, rfl⟩
        have H1 := HS1 V _ hw hV
        have H2 := HS2 V _ hw hV
        have CT := Lib.hid (fun w => refText_any x3 w HI.out.1 HI.out.2)
        rw [← hV] at CT
        have hVs : V.size ≤ 21 := by rw [← size_list, hV]; exact itoa_len HI.out
        clear HN HS1 HS2 hxl hw n1 hV
        cases bs
        · have H3 := H1 rfl
          clear H1 H2
          go_wp2_with fail
          refine (CT.out _).mono ?_
          rintro e w1 ⟨rfl, hb1⟩
          have hbw1 := hbw.trans (hb1.mono hsz)
          go_wp2_with fail
          go_roundw
          case rel => exact ⟨k + 1, _, true, by omega, by go_num, rfl, rfl, hbw1, H3⟩
          case measure => simp [intOf] <;> omega
        · have H3 := H2 rfl
          clear H1 H2
          go_wp2_with fail
          refine (CT.out _).mono ?_
          rintro e w1 ⟨rfl, hb1⟩
          have hbw1 := hbw.trans (hb1.mono hsz)
          go_wp2_with fail
          go_roundw
          case rel => exact ⟨k + 1, _, true, by omega, by go_num, rfl, rfl, hbw1, H3⟩
          case measure => simp [intOf] <;> omega
      · have n1 : ¬ (x1 = 1 ∨ x1 = 4) := by simp at k1 k4; omega
        have n2 : ¬ x1 = 2 := by simpa using k2
        have n3 : x1 = 3 := by simpa using k3
        have HCQ := Lib.hid (fun w => refQuote_any X w (by omega))
        unfold QuoteRet at HCQ
        rw [HX.out] at HCQ
        rw [show (⟨x2.toArray⟩ : ByteArray).data.toList = x2 from rfl, ← HX.out] at HCQ
        have hwq : wordF (x1, x2, x3, x4) = if (quoteF x2).2 = 0 then some (quoteF x2).1 else none := by unfold wordF; rw [if_neg n1, if_neg n2, if_pos n3]
        have hql : (quoteF x2).1.length ≤ 40000 := by
          unfold quoteF
          split
          · have := esc_flat_len x2
            have hxl' : x2.length ≤ 16384 := hxl
            simp only [List.length_cons, List.length_append, List.length_nil]; omega
          · simp
        obtain ⟨q, hq⟩ : ∃ q, quoteF x2 = q := ⟨_, rfl⟩
        rw [hq] at HCQ hwq hql
        obtain ⟨q1, q2⟩ := q
        obtain ⟨V, hV⟩ : ∃ V : ByteArray, V = ⟨q1.toArray⟩ := ⟨_, rfl⟩
        simp only at HCQ hwq hql
        rw [← hV] at HCQ
        have hVs : V.size ≤ 40000 := by rw [← size_list, hV]; exact hql
        clear hxl n1 n2 n3 hq hql
        by_cases hq0 : q2 = 0
        · subst hq0
          rw [if_pos rfl] at hwq
          have H1 := HS1 V _ hwq hV
          have H2 := HS2 V _ hwq hV
          clear HN HS1 HS2 hwq hV
          cases bs
          · have H3 := H1 rfl
            clear H1 H2
            go_wp2_with fail
            refine (HCQ.out _).mono ?_
            rintro e w1 ⟨rfl, hb1⟩
            have hbw1 := hbw.trans (hb1.mono hsz)
            go_wp2_with fail
            go_roundw
            case rel => exact ⟨k + 1, _, true, by omega, by go_num, rfl, rfl, hbw1, H3⟩
            case measure => simp [intOf] <;> omega
          · have H3 := H2 rfl
            clear H1 H2
            go_wp2_with fail
            refine (HCQ.out _).mono ?_
            rintro e w1 ⟨rfl, hb1⟩
            have hbw1 := hbw.trans (hb1.mono hsz)
            go_wp2_with fail
            go_roundw
            case rel => exact ⟨k + 1, _, true, by omega, by go_num, rfl, rfl, hbw1, H3⟩
            case measure => simp [intOf] <;> omega
        · rw [if_neg hq0] at hwq
          have H3 := HN hwq
          have hqn : (q2 != 0) = true := ine_t hq0
          clear HN HS1 HS2 hwq hV hq0
          go_wp2_with fail
          refine (HCQ.out _).mono ?_
          rintro e w1 ⟨rfl, hb1⟩
          have hbw1 := hbw.trans (hb1.mono hsz)
          go_wp2_with fail
          go_roundw
          case rel => exact ⟨k + 1, S, bs, by omega, by go_num, rfl, rfl, hbw1, H3⟩
          case measure => simp [intOf] <;> omega
      · have n1 : ¬ (x1 = 1 ∨ x1 = 4) := by simp at k1 k4; omega
        have n2 : ¬ x1 = 2 := by simpa using k2
        have n3 : ¬ x1 = 3 := by simpa using k3
        have H3 := HN (by unfold wordF; rw [if_neg n1, if_neg n2, if_neg n3])
        clear HN HS1 HS2 hxl n1 n2 n3
        go_wp2_with fail
        go_roundw
        case rel => exact ⟨k + 1, S, bs, by omega, by go_num, rfl, rfl, hbw, H3⟩
        case measure => simp [intOf] <;> omega
    · obtain rfl : k = l.length := by omega
      have HF : Hid (S = ⟨(printF l).toArray⟩) := by show _ = _; rw [hP.out.1, List.take_length]; rfl
      clear hP
      go_wp2_with fail
      go_ret
      exact ⟨by have := HF.out; simp [this], hbw⟩
end Go.Proofs.YtjcecnlnmodkgaaDoor

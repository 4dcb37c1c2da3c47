/- Chapter 26: the law on too many contours, by walking its text. -/
import Derived.Test.YtpefmbjaolcapaaTorLaw2
import Derived.IntWalk
namespace Go.Proofs.Ytpefmbjaolcapaa
open Go Go.RowKit

def Rep.u8i : Rep Int where
  size := 1
  R _ _ n cs := cs = [.int .u8 n] ∧ 0 ≤ n ∧ n ≤ 255
  len := by rintro _ _ _ _ ⟨rfl, _⟩; rfl
  mono _ h := h
  keep _ h := h
theorem opens_u8 : Opens Try.prog 5 Rep.u8i := by
  intro H enc W sp held fuel cs x h
  obtain ⟨n, rfl, _, hw⟩ := DataW.trod_int Try.underlying5 h
  have := bounds_u8 hw
  exact ⟨n, rfl, by omega⟩
theorem opensZ_u8 : OpensZ Try.prog 5 Rep.u8i (fun _ => True) := opensZ_of opens_u8
def holesL : List (List Pt) := (List.range 40).map fun (i : Nat) => squareF (i : Int) (i : Int) 1
def manyS (m : Nat) : List Shp := List.replicate m (squareF 0 0 99, holesL)
theorem many_len8 : (contoursF (manyS 8)).length = 328 := by decide +kernel
theorem many_len9 : (contoursF (manyS 9)).length = 369 := by decide +kernel
theorem many_len10 : (contoursF (manyS 10)).length = 410 := by decide +kernel
theorem many_len {m : Nat} (h : m = 8 ∨ m = 9 ∨ m = 10) : (contoursF (manyS m)).length = 41 * m := by
  rcases h with rfl | rfl | rfl
  · exact many_len8
  · exact many_len9
  · exact many_len10
theorem many_small {m : Nat} (h : m ≤ 10) : SmallS (manyS m) := by
  refine ⟨by unfold manyS; simp; omega, fun s hs => ?_⟩
  unfold manyS at hs
  rw [(List.mem_replicate.1 hs).2]
  show holesL.length ≤ 1000
  decide
theorem prs_block {w : World} {g o n c : Nat} {xs : List Pt} (h : prR.slice.R w (Lt w) xs [.slice (some ⟨g, o, none⟩) n c]) : prR.slice.R w (fun b => b = g) xs [.slice (some ⟨g, o, none⟩) n c] := by
  obtain ⟨A', c', e', h1, h2, h3⟩ := h
  injection e' with e' _
  injection e' with e1 e2 e3
  subst e1 e2 e3
  refine ⟨some ⟨g, o, none⟩, c, rfl, h1, h2, fun k hk => ?_⟩
  obtain ⟨b, off, es, e, _, hr, hc⟩ := h3 k hk
  have e5 : b = g := by
    injection e with e
    injection e with e5 _ _
    exact e5.symm
  subst e5
  exact ⟨b, off, es, e, rfl, hr, hc⟩
def SqNew (x y s : Int) (w : World) (e : Ending) (w' : World) : Prop := ∃ A, e = .returned (.slice A 4 4) ∧ ptsR.R w' (fun b => w.heap.size ≤ b ∧ b < w'.heap.size) (squareF x y s) [.slice A 4 4] ∧ Below w.heap.size w w'
set_option maxHeartbeats 800000 in
theorem square_new (x y s : Int) (w : World) (hx : 0 ≤ x ∧ x ≤ 1000) (hy : 0 ≤ y ∧ y ≤ 1000) (hs : 0 ≤ s ∧ s ≤ 1000) :
    Calls Try.prog 21 #[.int .i64 x, .int .i64 y, .int .i64 s] w (SqNew x y s w) := by
  have e1 : IntKind.i64.wrap (x + s) = x + s := IntWalk.i64_in _ (by omega)
  have e2 : IntKind.i64.wrap (y + s) = y + s := IntWalk.i64_in _ (by omega)
  have HX := Lib.hid hx
  have HY := Lib.hid hy
  have HS := Lib.hid hs
  clear hx hy hs
  go_enter Try.func21, Try.ntmps21
  go_wp2
  go_ret
  exact ⟨_, rfl, Rep.mono _ (fun b (hb : b = w.heap.size) => by subst hb; simp) (prs_block (square_rep (Blk.new w _ _) HX.out HY.out HS.out)), (Below.refl _ _).alloc (Nat.le_refl _) _⟩
/-- what lies in the holes behind k squares. -/
structure HoleAt (w : World) (g k : Nat) (cs : Array Value) : Prop where
  size : cs.size = 40
  blk : Blk w g 41 cs
  at_ : ∀ j, j < k → ∃ A, cs[j]? = some (.slice A 4 4) ∧ ptsR.R w (fun b => g < b ∧ b < w.heap.size) (squareF (j : Int) (j : Int) 1) [.slice A 4 4]
theorem HoleAt.step {w W : World} {g k : Nat} {cs : Array Value} {A : Option Addr} (h : HoleAt w g k cs) (hk : k < 40) (hb : Below w.heap.size w W) (hA : ptsR.R W (fun b => w.heap.size ≤ b ∧ b < W.heap.size) (squareF (k : Int) (k : Int) 1) [.slice A 4 4]) :
    HoleAt (W.setCell ⟨g, k, none⟩ (.slice A 4 4)) g (k + 1) (cs.setIfInBounds k (.slice A 4 4)) := by
  have hg := h.blk.lt
  have hs : (W.setCell ⟨g, k, none⟩ (.slice A 4 4)).heap.size = W.heap.size := by simp [World.setCell]
  have hsz := hb.size
  have hkeep : ∀ i, i ≠ g → (W.setCell ⟨g, k, none⟩ (.slice A 4 4)).heap[i]? = W.heap[i]? := fun i hi => Below.heap_setCell W ⟨g, k, none⟩ _ i hi
  refine ⟨by rw [Array.size_setIfInBounds]; exact h.size, (h.blk.below hb hg).set_ k _, fun j hj => ?_⟩
  by_cases e : j = k
  · subst e
    refine ⟨A, by rw [Array.getElem?_setIfInBounds, if_pos rfl, if_pos (by rw [h.size]; exact hk)], ?_⟩
    exact Rep.mono _ (fun b (hb' : w.heap.size ≤ b ∧ b < W.heap.size) => by rw [hs]; omega) (Rep.keep _ (fun i (hi : w.heap.size ≤ i ∧ i < W.heap.size) => hkeep i (by omega)) hA)
  · obtain ⟨B, h1, h2⟩ := h.at_ j (by omega)
    refine ⟨B, by rw [Array.getElem?_setIfInBounds, if_neg (by omega)]; exact h1, ?_⟩
    exact Rep.mono _ (fun b (hb' : g < b ∧ b < w.heap.size) => by rw [hs]; omega) (Rep.keep _ (fun i (hi : g < i ∧ i < w.heap.size) => (hkeep i (by omega)).trans (hb.block i hi.2)) h2)
theorem HoleAt.rep {w : World} {g : Nat} {cs : Array Value} (h : HoleAt w g 40 cs) : holesR.R w (fun b => g ≤ b ∧ b < w.heap.size) holesL [.slice (some ⟨g, 0, none⟩) 40 40] :=
  ⟨some ⟨g, 0, none⟩, 40, rfl, by show 40 ≤ 40; omega, by unfold maxLen; omega, fun k hk => by
    have hk40 : k < 40 := by have h1 : holesL.length = 40 := rfl; omega
    obtain ⟨A, h1, h2⟩ := h.at_ k hk40
    have he : holesL[k] = squareF (k : Int) (k : Int) 1 := by simp [holesL]
    refine ⟨g, 0, [.slice A 4 4], rfl, ⟨Nat.le_refl _, h.blk.lt⟩, ?_, fun j hj => ?_⟩
    · have h3 := ptsR.mono (D' := fun b => g ≤ b ∧ b < w.heap.size) (fun b (hb : g < b ∧ b < w.heap.size) => by omega) h2
      rw [← he] at h3
      exact h3
    · have hj0 : j = 0 := by
        have h : j < 1 := hj
        omega
      subst hj0
      have := h.blk.cell k
      rw [h1] at this
      rw [show 0 + k * ptsR.size + 0 = k by show 0 + k * 1 + 0 = k; omega]
      exact this⟩
/-- what lies in the shapes behind k of them. -/
structure ShpAt (w : World) (g h m k : Nat) (cs : Array Value) : Prop where
  size : cs.size = m * 2
  blk : Blk w h 44 cs
  lt : g < h
  hole : holesR.R w (fun b => g ≤ b ∧ b < h) holesL [.slice (some ⟨g, 0, none⟩) 40 40]
  at_ : ∀ j, j < k → ∃ A, cs[j * 2]? = some (.slice A 4 4) ∧ cs[j * 2 + 1]? = some (.slice (some ⟨g, 0, none⟩) 40 40) ∧ ptsR.R w (fun b => h < b ∧ b < w.heap.size) (squareF 0 0 99) [.slice A 4 4]
theorem ShpAt.step {w W : World} {g h m k : Nat} {cs : Array Value} {A : Option Addr} (H : ShpAt w g h m k cs) (hk : k < m) (hb : Below w.heap.size w W) (hA : ptsR.R W (fun b => w.heap.size ≤ b ∧ b < W.heap.size) (squareF 0 0 99) [.slice A 4 4]) :
    ShpAt ((W.setCell ⟨h, k * 2, none⟩ (.slice A 4 4)).setCell ⟨h, k * 2 + 1, none⟩ (.slice (some ⟨g, 0, none⟩) 40 40)) g h m (k + 1) ((cs.setIfInBounds (k * 2) (.slice A 4 4)).setIfInBounds (k * 2 + 1) (.slice (some ⟨g, 0, none⟩) 40 40)) := by
  have hg := H.blk.lt
  have hgh := H.lt
  have hs : ((W.setCell ⟨h, k * 2, none⟩ (.slice A 4 4)).setCell ⟨h, k * 2 + 1, none⟩ (.slice (some ⟨g, 0, none⟩) 40 40)).heap.size = W.heap.size := by simp [World.setCell]
  have hsz := hb.size
  have hkeep : ∀ i, i ≠ h → ((W.setCell ⟨h, k * 2, none⟩ (.slice A 4 4)).setCell ⟨h, k * 2 + 1, none⟩ (.slice (some ⟨g, 0, none⟩) 40 40)).heap[i]? = W.heap[i]? := fun i hi => (Below.heap_setCell _ ⟨h, k * 2 + 1, none⟩ _ i hi).trans (Below.heap_setCell W ⟨h, k * 2, none⟩ _ i hi)
  refine ⟨by rw [Array.size_setIfInBounds, Array.size_setIfInBounds]; exact H.size, ((H.blk.below hb hg).set_ _ _).set_ _ _, hgh, ?_, fun j hj => ?_⟩
  · exact Rep.keep _ (fun i (hi : g ≤ i ∧ i < h) => (hkeep i (by omega)).trans (hb.block i (by omega))) H.hole
  · by_cases e : j = k
    · subst e
      refine ⟨A, ?_, ?_, ?_⟩
      · rw [Array.getElem?_setIfInBounds, if_neg (by omega), Array.getElem?_setIfInBounds, if_pos rfl, if_pos (by rw [H.size]; omega)]
      · rw [Array.getElem?_setIfInBounds, if_pos rfl, if_pos (by rw [Array.size_setIfInBounds, H.size]; omega)]
      · exact Rep.mono _ (fun b (hb' : w.heap.size ≤ b ∧ b < W.heap.size) => by rw [hs]; omega) (Rep.keep _ (fun i (hi : w.heap.size ≤ i ∧ i < W.heap.size) => hkeep i (by omega)) hA)
    · obtain ⟨B, h1, h2, h3⟩ := H.at_ j (by omega)
      refine ⟨B, by rw [Array.getElem?_setIfInBounds, if_neg (by omega), Array.getElem?_setIfInBounds, if_neg (by omega)]; exact h1, by rw [Array.getElem?_setIfInBounds, if_neg (by omega), Array.getElem?_setIfInBounds, if_neg (by omega)]; exact h2, ?_⟩
      exact Rep.mono _ (fun b (hb' : h < b ∧ b < w.heap.size) => by rw [hs]; omega) (Rep.keep _ (fun i (hi : h < i ∧ i < w.heap.size) => (hkeep i (by omega)).trans (hb.block i hi.2)) h3)
theorem ShpAt.rep {w : World} {g h m : Nat} {cs : Array Value} (H : ShpAt w g h m m cs) (hm : m ≤ 10) : shpsR.R w (Lt w) (manyS m) [.slice (some ⟨h, 0, none⟩) m m] := by
  have hl : (manyS m).length = m := by simp [manyS]
  refine ⟨some ⟨h, 0, none⟩, m, by rw [hl], by rw [hl]; exact Nat.le_refl _, by unfold maxLen; omega, fun k hk => ?_⟩
  have hkm : k < m := by omega
  obtain ⟨A, h1, h2, h3⟩ := H.at_ k hkm
  have he : (manyS m)[k] = (squareF 0 0 99, holesL) := by simp [manyS]
  have hlt := H.blk.lt
  refine ⟨h, 0, [.slice A 4 4, .slice (some ⟨g, 0, none⟩) 40 40], rfl, hlt, ?_, fun j hj => ?_⟩
  · rw [he]
    exact ⟨[.slice A 4 4], [.slice (some ⟨g, 0, none⟩) 40 40], rfl, Rep.mono _ (fun b (hb : h < b ∧ b < w.heap.size) => hb.2) h3, Rep.mono _ (fun b (hb : g ≤ b ∧ b < h) => Nat.lt_trans hb.2 hlt) H.hole⟩
  · have hj2 : j = 0 ∨ j = 1 := by
      have h : j < 2 := hj
      omega
    rcases hj2 with rfl | rfl
    · have := H.blk.cell (k * 2)
      rw [h1] at this
      rw [show 0 + k * shR.size + 0 = k * 2 by show 0 + k * 2 + 0 = k * 2; omega]
      exact this
    · have := H.blk.cell (k * 2 + 1)
      rw [h2] at this
      rw [show 0 + k * shR.size + 1 = k * 2 + 1 by show 0 + k * 2 + 1 = k * 2 + 1; omega]
      exact this
theorem run_make_any {P : Program} {t e : TypeId} {z : Value} {size bytes : Nat} (ht : P.underlying t = some (.slice e)) (hinfo : (P.info? e).map (fun i => (i.zero, i.size, i.bytes)) = some (some z, size, bytes))
    (n : Nat) (hb : bytes * n ≤ 281474976710656) (hn : n ≤ 9223372036854775807) (w : World) :
    (Instr.makeSlice t (.int .i64 (n : Int)) (.int .i64 (n : Int))).run P w = .ok (.slice (some ⟨w.heap.size, 0, none⟩) n n) (w.alloc (.cells (madeCells z.cells (n * size)) e)) := by
  obtain ⟨i, hi, h1, h2, h3⟩ := info_parts hinfo
  have hb' : (i.bytes : Int) * (n : Int) ≤ 281474976710656 := by
    have h : ((i.bytes * n : Nat) : Int) ≤ 281474976710656 := by rw [h3]; omega
    rwa [Int.natCast_mul] at h
  have hr := run_make (P := P) w t e i z ht hi h1 .i64 .i64 n n (by omega) (by omega) hb' (by omega)
  simp only [Int.toNat_natCast] at hr
  rw [hr, h2]
theorem pts_info : (Try.prog.info? 41).map (fun i => (i.zero, i.size, i.bytes)) = some (some (.slice none 0 0), 1, 24) := by kernel_rfl
theorem shp_info : (Try.prog.info? 44).map (fun i => (i.zero, i.size, i.bytes)) = some (some (.agg #[.slice none 0 0, .slice none 0 0]), 2, 48) := by kernel_rfl
def c40 : Array Value := madeCells (Value.slice none 0 0).cells (40 * 1)
theorem c40_size : c40.size = 40 := size_madeCells _ _
def cM (m : Nat) : Array Value := madeCells (Value.agg #[.slice none 0 0, .slice none 0 0]).cells (m * 2)
theorem cM_size (m : Nat) : (cM m).size = m * 2 := size_madeCells _ _
theorem mk40 (u : World) : (Instr.makeSlice 40 (.int .i64 40) (.int .i64 40)).run Try.prog u = .ok (.slice (some ⟨u.heap.size, 0, none⟩) 40 40) (u.alloc (.cells c40 41)) :=
  run_make_any (P := Try.prog) Try.underlying40 pts_info 40 (by omega) (by omega) u
theorem mkM (m : Nat) (hm : m ≤ 10) (u : World) : (Instr.makeSlice 22 (.int .i64 (m : Int)) (.int .i64 (m : Int))).run Try.prog u = .ok (.slice (some ⟨u.heap.size, 0, none⟩) m m) (u.alloc (.cells (cM m) 44)) :=
  run_make_any (P := Try.prog) Try.underlying22 shp_info m (by omega) (by omega) u
theorem hole0 (w : World) : HoleAt (w.alloc (.cells c40 41)) w.heap.size 0 c40 := ⟨c40_size, Blk.new w _ _, fun j hj => by omega⟩
theorem ShpAt.zero {w : World} {g m : Nat} {cs : Array Value} (h : HoleAt w g 40 cs) : ShpAt (w.alloc (.cells (cM m) 44)) g w.heap.size m 0 (cM m) :=
  ⟨cM_size m, Blk.new w _ _, h.blk.lt, Rep.keep _ (fun i (hi : g ≤ i ∧ i < w.heap.size) => ((Below.refl w.heap.size w).alloc (Nat.le_refl _) _).block i hi.2) h.rep, fun j hj => by omega⟩
set_option maxRecDepth 100000 in
set_option maxHeartbeats 4000000 in
theorem many_law (n0 : Int) (vo : Value) (n : Int) (order : List Pt) (w : World) (hn : Rep.u8i.R w (Lt w) n [.int .u8 n0]) (ho : prR.slice.R w (Lt w) order [vo]) :
    Calls Try.prog 5 #[.int .u8 n0, vo] w (Ret (.bool true) w) := by
  obtain ⟨e0, hn0, hn1⟩ := hn
  have e0 : n0 = n := by simpa using e0
  subst e0
  obtain ⟨B, d', rfl, hm', -⟩ := slice_inv ho
  have hmk := mk40
  have g0 := hole0 w
  have hw0 := (Below.refl w.heap.size w).alloc (Nat.le_refl _) (.cells c40 41)
  go_enter Try.func5, Try.ntmps5
  go_wp2
  clear hmk
  go_loopw [6] (fun i wr => ∃ (k : Nat) (cs : Array Value), k ≤ 40 ∧ i = .int .i64 k ∧ HoleAt wr w.heap.size k cs ∧ Below w.heap.size w wr) (fun i _ => 40 - (intOf i).toNat)
  case atStart => exact ⟨0, _, by omega, rfl, g0, hw0⟩
  case round =>
    obtain ⟨k, cs, hk, rfl, hH, hb⟩ := hrel
    by_cases hlt : k < 40
    · have hki : (k : Int) < 40 := by omega
      go_wp2_with fail
      refine (square_new (k : Int) (k : Int) 1 _ (by omega) (by omega) (by omega)).mono ?_
      rintro e w1 ⟨S, rfl, hS, hq⟩
      have b1 := hH.blk.below hq hH.blk.lt
      have f1 := b1.free k
      have c1 := b1.cell k
      rw [Array.getElem?_eq_getElem (by rw [hH.size]; exact hlt)] at c1
      have hs1 := hH.step hlt hq hS
      have hbs := (bstep hb hb.size hq).setCell (p := ⟨w.heap.size, k, none⟩) (Nat.le_refl _) (.slice S 4 4)
      go_wp2
      go_roundw
      case rel => exact ⟨k + 1, _, by omega, by go_num, hs1, hbs⟩
      case measure => simp [intOf]; omega
    · have hk40 : k = 40 := by omega
      have hki : ¬ (k : Int) < 40 := by omega
      rw [hk40] at hH
      clear hk40
      obtain ⟨mm, hmm, h8⟩ : ∃ mm : Nat, 8 + n0 % 3 = (mm : Int) ∧ (mm = 8 ∨ mm = 9 ∨ mm = 10) := ⟨(8 + n0 % 3).toNat, by omega, by omega⟩
      have hm10 : mm ≤ 10 := by omega
      have hmk2 := mkM mm hm10
      have s0 := ShpAt.zero (m := mm) hH
      have hb0 := hb.alloc hb.size (.cells (cM mm) 44)
      go_wp2
      clear hmk2
      obtain ⟨gh, hgh⟩ : ∃ gh, gh = wr.heap.size := ⟨_, rfl⟩
      obtain ⟨w2, hw2⟩ : ∃ w2, w2 = wr.alloc (.cells (cM mm) 44) := ⟨_, rfl⟩
      have hgw : w.heap.size ≤ gh := by rw [hgh]; exact hb.size
      rw [← hgh, ← hw2] at s0
      rw [← hw2] at hb0
      rw [← hgh, ← hw2]
      clear hgh hw2 hb hH g0 hw0
      go_loopw [8] (fun i wq => ∃ (k : Nat) (cs : Array Value), k ≤ mm ∧ i = .int .i64 k ∧ ShpAt wq w.heap.size gh mm k cs ∧ Below w.heap.size w wq) (fun i _ => mm - (intOf i).toNat)
      case atStart => exact ⟨0, _, Nat.zero_le _, rfl, s0, hb0⟩
      case round =>
        obtain ⟨k2, cs, hk2, rfl, hH, hb⟩ := hrel
        by_cases hlt : k2 < mm
        · have hki : (k2 : Int) < (mm : Int) := by omega
          go_wp2_with fail
          refine (square_new 0 0 99 _ (by omega) (by omega) (by omega)).mono ?_
          rintro e w1 ⟨S, rfl, hS, hq⟩
          have b1 := hH.blk.below hq hH.blk.lt
          have f1 := b1.free (k2 * 2)
          have f2 := b1.free (k2 * 2 + 1)
          have c1 := b1.cell (k2 * 2)
          have c2 := b1.cell (k2 * 2 + 1)
          rw [Array.getElem?_eq_getElem (by rw [hH.size]; omega)] at c1 c2
          have hs1 := hH.step hlt hq hS
          have hbs := ((bstep hb hb.size hq).setCell (p := ⟨gh, k2 * 2, none⟩) hgw (.slice S 4 4)).setCell (p := ⟨gh, k2 * 2 + 1, none⟩) hgw (.slice (some ⟨w.heap.size, 0, none⟩) 40 40)
          go_wp2
          go_roundw
          case rel => exact ⟨k2 + 1, _, by omega, by go_num, hs1, hbs⟩
          case measure => simp [intOf]; omega
        · obtain rfl : k2 = mm := by omega
          have hrep := hH.rep hm10
          have hsm := many_small hm10
          have hct := many_len h8
          have h288 : 288 < (contoursF (manyS k2)).length := by omega
          have h9 : 9 < (contoursF (manyS k2)).length := by omega
          have HSM := Lib.hid hsm
          have HBD := Lib.hid (ct_bd hsm)
          have HCT := Lib.hid hct
          have HTR : Hid (travelF (manyS k2) order = (0, 13)) := by
            show _ = _
            have h := checkT_many (order := order) h288
            rw [travelF_bad (by rw [h]; decide), h]
          have HCK : Hid (checkT (contoursF (manyS k2)) order = 13) := checkT_many h288
          have HBE : Hid (bestF (manyS k2) = ([], 0, 13)) := bestF_many h9
          have HGR : Hid (greedyTF (manyS k2) = []) := greedyTF_many h288
          clear hsm hct h288 h9
          go_wp2_with fail
          have hC := travel_any _ _ (manyS k2) order _ hrep (Rep.below ho hb) HSM.out
          rw [HTR.out] at hC
          refine hC.mono ?_
          rintro e w3 ⟨rfl, hq⟩
          have hrep := Rep.below hrep hq
          have hb3 := bstep hb hb.size hq
          clear hC hq
          go_wp2_with fail
          have hC := best_any _ _ _ (manyS k2) _ hrep HSM.out
          rw [HBE.out] at hC
          refine hC.mono ?_
          rintro e w4 ⟨v4, rfl, hv4, hq⟩
          obtain ⟨A4, c4, rfl, -, -⟩ := slice_inv hv4
          have hrep := Rep.below hrep hq
          have hb4 := bstep hb3 hb3.size hq
          clear hC hq hb3
          go_wp2_with fail
          refine (contours_any _ _ _ (manyS k2) _ hrep HSM.out).mono ?_
          rintro e w5 ⟨v5, rfl, hown5, hq⟩
          obtain ⟨A5, c5, rfl⟩ := own_slice hown5
          have hrep := Rep.below hrep hq
          have hb5 := bstep hb4 hb4.size hq
          have hl5 : (contoursF (manyS k2)).length = 41 * k2 := HCT.out
          have hww : IntKind.i64.wrap (41 * (k2 : Int)) = 41 * (k2 : Int) := IntWalk.i64_in _ (by omega)
          have hee : (((contoursF (manyS k2)).length : Int) == 41 * (k2 : Int)) = true := by rw [hl5]; simp
          clear hq hb4 hown5 hl5
          go_wp2_with fail
          have hC := checkT_any _ _ (manyS k2) order _ hrep (Rep.below ho hb5) HSM.out
          rw [HCK.out] at hC
          refine hC.mono ?_
          rintro e w6 ⟨rfl, hq⟩
          have hrep := Rep.below hrep hq
          have hb6 := bstep hb5 hb5.size hq
          clear hC hq hb5
          go_wp2_with fail
          have hC := greedyT_any _ (manyS k2) _ hrep HSM.out
          rw [HGR.out] at hC
          refine hC.mono ?_
          rintro e w7 ⟨v7, rfl, hv7, hq⟩
          obtain ⟨A7, c7, rfl, -, -⟩ := slice_inv hv7
          have hb7 := bstep hb6 hb6.size hq
          clear hC hq hb6
          go_wp2_with fail
          refine (awake_any _).mono ?_
          rintro e w8 ⟨rfl, hq⟩
          have hb8 := bstep hb7 hb7.size hq
          go_wp2
          go_ret
          exact ⟨rfl, hb8⟩
end Go.Proofs.Ytpefmbjaolcapaa

/- Chapter 34: newPanel and the library's MinFunc, MaxFunc, by walking their text. -/
import Derived.Test.YtgiphdjblnfjcaaWsW7
namespace Go.Proofs.Ytgiphdjblnfjcaa
open Go Go.RowKit

set_option maxHeartbeats 400000 in
theorem at_any (p s p' s' : Int) (w : World) (h0 : -32768 ≤ p) (h1 : p ≤ 32768) (h2 : -32768 ≤ p') (h3 : p' ≤ 32768) :
    Calls Try.prog 42 #[.agg #[.int .i64 p, .int .i64 s], .agg #[.int .i64 p', .int .i64 s']] w (Ret (.int .i64 (p - p')) w) := by
  go_enter Try.func42, Try.ntmps42
  go_wp2
  go_ret
  exact ⟨by first | rfl | trivial, ((Below.refl _ _).alloc (Nat.le_refl _) _).alloc (by simp) _⟩
theorem low_lt {l : List Bead} {k : Nat} {p s x : Int} (h : l[k]? = some ⟨p, s⟩) (hx : lowTo l k = x) (hp : p - x < 0) : lowTo l (k + 1) = p := by
  rw [lowTo, getD_of h, hx]; show min x p = p; omega
theorem low_ge {l : List Bead} {k : Nat} {p s x : Int} (h : l[k]? = some ⟨p, s⟩) (hx : lowTo l k = x) (hp : ¬ p - x < 0) : lowTo l (k + 1) = x := by
  rw [lowTo, getD_of h, hx]; show min x p = x; omega
theorem high_gt {l : List Bead} {k : Nat} {p s x : Int} (h : l[k]? = some ⟨p, s⟩) (hx : highTo l k = x) (hp : 0 < p - x) : highTo l (k + 1) = p := by
  rw [highTo, getD_of h, hx]; show max x p = p; omega
theorem high_le {l : List Bead} {k : Nat} {p s x : Int} (h : l[k]? = some ⟨p, s⟩) (hx : highTo l k = x) (hp : ¬ 0 < p - x) : highTo l (k + 1) = x := by
  rw [highTo, getD_of h, hx]; show max x p = x; omega
theorem bead_size : (Try.prog.info? 45).map (·.size) = some 2 := by kernel_rfl
def BeadPost (m : Int) (w : World) (e : Ending) (w' : World) : Prop := ∃ s, e = .returned (.agg #[.int .i64 m, .int .i64 s]) ∧ Below w.heap.size w w'
set_option maxHeartbeats 400000 in
theorem minFunc_any (v : Value) (l : List Bead) (w : World) (hl : beadR.slice.R w (Lt w) l [v]) (hok : l.all okBead = true) (hpos : 0 < l.length) :
    Calls Try.prog 43 #[v, .func (.func 42) #[] #[]] w (BeadPost (lowTo l l.length) w) := by
  obtain ⟨A, c, rfl, hm, -⟩ := slice_inv hl
  have HOK := Lib.hid hok
  clear hok
  obtain ⟨b, off, p0, s0, rfl, hx0, hbD, a0, a1, -⟩ := beads_at hl hpos
  have hbl : b < w.heap.size := hbD
  have hbn : ¬ b = w.heap.size := by omega
  clear hbD
  rw [Nat.zero_mul, Nat.add_zero] at a0 a1
  have HB0 := Lib.hid (okBead_at HOK.out hx0.out)
  go_enter Try.func43, Try.ntmps43
  go_wp2
  go_loopw [6] (fun i wr => ∃ (k : Nat) (x y : Int), 1 ≤ k ∧ k ≤ l.length ∧ i = .int .i64 k ∧ Hid (lowTo l k = x) ∧ Hid (-32768 ≤ x ∧ x ≤ 32768) ∧ Blk wr (w.heap.size + 1) 45 #[.int .i64 x, .int .i64 y] ∧
      (∃ z, Blk wr w.heap.size 45 z ∧ z.size = 2) ∧ Below w.heap.size w wr) (fun i _ => l.length - (intOf i).toNat)
  case atStart =>
    refine ⟨1, p0, s0, Nat.le_refl _, hpos, rfl, ?_, ?_, by simpa using Blk.new (w.alloc (.cells #[.int .i64 0, .int .i64 0] 45)) 45 #[.int .i64 p0, .int .i64 s0], ⟨_, (Blk.new w 45 #[.int .i64 0, .int .i64 0]).alloc _, rfl⟩, ((Below.refl _ _).alloc (Nat.le_refl _) _).alloc (by simp) _⟩
    · show lowTo l 1 = p0
      rw [lowTo, getD_of hx0.out, lowTo, getD_of hx0.out]; exact Int.min_self _
    · exact ⟨HB0.out.1, HB0.out.2.1⟩
  case round =>
    obtain ⟨k, x, y, hk1, hk, rfl, hlo, hxb, hblk, ⟨z, hz, hzs⟩, hb⟩ := hrel
    have hbz := hb.size
    have hCz := hblk.lt
    by_cases hlt : k < l.length
    · obtain ⟨b2, off2, p, s, e, hx, hbD, c0, c1, -⟩ := beads_at (Rep.at_ hl hb) hlt
      injection e with e
      injection e with e1 e2 _
      subst e1 e2
      have hbr : b < wr.heap.size := by omega
      have HB := Lib.hid (okBead_at HOK.out hx.out)
      have hxb0 := hxb.out.1
      have hxb1 := hxb.out.2
      have hp0 := HB.out.1
      have hp1 := HB.out.2.1
      have k0 := hblk.c20
      have k1 := hblk.c21
      by_cases hps : p - x < 0
      · have HN := Lib.hid (low_lt hx.out hlo.out hps)
        go_wp2
        go_region_held3 (fun W => Below wr.heap.size wr W ∧ W.cell? ⟨b, off + k * 2, none⟩ = some (.int .i64 p) ∧ W.cell? ⟨b, off + k * 2 + 1, none⟩ = some (.int .i64 s) ∧ W.cell? ⟨w.heap.size + 1, 0, none⟩ = some (.int .i64 x) ∧ W.cell? ⟨w.heap.size + 1, 1, none⟩ = some (.int .i64 y))
          (first
            | exact ⟨(Below.refl _ _).drew, c0, c1, k0, k1⟩
            | exact ⟨hSa, (hSa.cell (p := ⟨b, off + k * 2, none⟩) hbr).trans c0, (hSa.cell (p := ⟨b, off + k * 2 + 1, none⟩) hbr).trans c1, (hSa.cell (p := ⟨w.heap.size + 1, 0, none⟩) hCz).trans k0, (hSa.cell (p := ⟨w.heap.size + 1, 1, none⟩) hCz).trans k1⟩)
          (first
            | (go_at_call 42
               go_split_ands
               refine (at_any _ _ _ _ _ hp0 hp1 hxb0 hxb1).mono ?_
               rintro e W1 ⟨rfl, hq⟩
               have hSa := bstep (B := wr.heap.size) (a := wr) (by assumption) (Below.size (by assumption)) hq))
        all_goals
          go_split_ands
          have q := hblk.below (w' := W1) (by assumption) hCz
          have qz := hz.below (w' := W1) (by assumption) (by omega)
          have f0 := q.free 0
          have f1 := q.free 1
          go_wp2
          go_roundw
          case rel =>
            refine ⟨k + 1, p, s, by omega, by omega, by go_num, HN.out, ⟨hp0, hp1⟩, ?_, ⟨z, (qz.far (p := ⟨w.heap.size + 1, 0, none⟩) (by show w.heap.size ≠ w.heap.size + 1; omega) _).far (p := ⟨w.heap.size + 1, 1, none⟩) (by show w.heap.size ≠ w.heap.size + 1; omega) _, hzs⟩, ?_⟩
            · exact (q.set_ 0 (.int .i64 p)).set_ 1 (.int .i64 s)
            · exact ((bstep hb hbz (by assumption)).setCell (p := ⟨w.heap.size + 1, 0, none⟩) (by show w.heap.size ≤ w.heap.size + 1; omega) _).setCell (p := ⟨w.heap.size + 1, 1, none⟩) (by show w.heap.size ≤ w.heap.size + 1; omega) _
          case measure => simp [intOf]; omega
      · have HN := Lib.hid (low_ge hx.out hlo.out hps)
        go_wp2
        go_region_held3 (fun W => Below wr.heap.size wr W ∧ W.cell? ⟨b, off + k * 2, none⟩ = some (.int .i64 p) ∧ W.cell? ⟨b, off + k * 2 + 1, none⟩ = some (.int .i64 s) ∧ W.cell? ⟨w.heap.size + 1, 0, none⟩ = some (.int .i64 x) ∧ W.cell? ⟨w.heap.size + 1, 1, none⟩ = some (.int .i64 y))
          (first
            | exact ⟨(Below.refl _ _).drew, c0, c1, k0, k1⟩
            | exact ⟨hSa, (hSa.cell (p := ⟨b, off + k * 2, none⟩) hbr).trans c0, (hSa.cell (p := ⟨b, off + k * 2 + 1, none⟩) hbr).trans c1, (hSa.cell (p := ⟨w.heap.size + 1, 0, none⟩) hCz).trans k0, (hSa.cell (p := ⟨w.heap.size + 1, 1, none⟩) hCz).trans k1⟩)
          (first
            | (go_at_call 42
               go_split_ands
               refine (at_any _ _ _ _ _ hp0 hp1 hxb0 hxb1).mono ?_
               rintro e W1 ⟨rfl, hq⟩
               have hSa := bstep (B := wr.heap.size) (a := wr) (by assumption) (Below.size (by assumption)) hq))
        all_goals
          go_split_ands
          have q := hblk.below (w' := W1) (by assumption) hCz
          have qz := hz.below (w' := W1) (by assumption) (by omega)
          go_wp2
          go_roundw
          case rel => exact ⟨k + 1, x, y, by omega, by omega, by go_num, HN.out, ⟨hxb0, hxb1⟩, q, ⟨z, qz, hzs⟩, bstep hb hbz (by assumption)⟩
          case measure => simp [intOf]; omega
    · obtain rfl : k = l.length := by omega
      have k0 := hblk.c20
      have k1 := hblk.c21
      obtain ⟨z0, z1, rfl⟩ : ∃ z0 z1, z = #[z0, z1] := by
        rcases z with ⟨zl⟩
        match zl, hzs with
        | [a, b], _ => exact ⟨a, b, rfl⟩
      have z0' := hz.c20
      have z1' := hz.c21
      have f0 := hz.free 0
      have f1 := hz.free 1
      have hb2 : Below w.heap.size w ((wr.setCell ⟨w.heap.size, 0, none⟩ (.int .i64 x)).setCell ⟨w.heap.size, 1, none⟩ (.int .i64 y)) := (hb.setCell (p := ⟨w.heap.size, 0, none⟩) (Nat.le_refl _) _).setCell (p := ⟨w.heap.size, 1, none⟩) (Nat.le_refl _) _
      have hz2 : Blk ((wr.setCell ⟨w.heap.size, 0, none⟩ (.int .i64 x)).setCell ⟨w.heap.size, 1, none⟩ (.int .i64 y)) w.heap.size 45 #[.int .i64 x, .int .i64 y] := (hz.set_ 0 (.int .i64 x)).set_ 1 (.int .i64 y)
      go_wp2
      exact bodyPost_ret (v := .agg #[.int .i64 x, .int .i64 y]) (results_cell_row (ty := 45) rfl _ _ w.heap.size 45 #[.int .i64 x, .int .i64 y] (0, 0) _ rfl hz2 Try.underlying45 rfl bead_size) rfl ⟨y, by rw [hlo.out], hb2⟩
set_option maxHeartbeats 400000 in
theorem maxFunc_any (v : Value) (l : List Bead) (w : World) (hl : beadR.slice.R w (Lt w) l [v]) (hok : l.all okBead = true) (hpos : 0 < l.length) :
    Calls Try.prog 44 #[v, .func (.func 42) #[] #[]] w (BeadPost (highTo l l.length) w) := by
  obtain ⟨A, c, rfl, hm, -⟩ := slice_inv hl
  have HOK := Lib.hid hok
  clear hok
  obtain ⟨b, off, p0, s0, rfl, hx0, hbD, a0, a1, -⟩ := beads_at hl hpos
  have hbl : b < w.heap.size := hbD
  have hbn : ¬ b = w.heap.size := by omega
  clear hbD
  rw [Nat.zero_mul, Nat.add_zero] at a0 a1
  have HB0 := Lib.hid (okBead_at HOK.out hx0.out)
  go_enter Try.func44, Try.ntmps44
  go_wp2
  go_loopw [6] (fun i wr => ∃ (k : Nat) (x y : Int), 1 ≤ k ∧ k ≤ l.length ∧ i = .int .i64 k ∧ Hid (highTo l k = x) ∧ Hid (-32768 ≤ x ∧ x ≤ 32768) ∧ Blk wr (w.heap.size + 1) 45 #[.int .i64 x, .int .i64 y] ∧
      (∃ z, Blk wr w.heap.size 45 z ∧ z.size = 2) ∧ Below w.heap.size w wr) (fun i _ => l.length - (intOf i).toNat)
  case atStart =>
    refine ⟨1, p0, s0, Nat.le_refl _, hpos, rfl, ?_, ?_, by simpa using Blk.new (w.alloc (.cells #[.int .i64 0, .int .i64 0] 45)) 45 #[.int .i64 p0, .int .i64 s0], ⟨_, (Blk.new w 45 #[.int .i64 0, .int .i64 0]).alloc _, rfl⟩, ((Below.refl _ _).alloc (Nat.le_refl _) _).alloc (by simp) _⟩
    · show highTo l 1 = p0
      rw [highTo, getD_of hx0.out, highTo, getD_of hx0.out]; exact Int.max_self _
    · exact ⟨HB0.out.1, HB0.out.2.1⟩
  case round =>
    obtain ⟨k, x, y, hk1, hk, rfl, hlo, hxb, hblk, ⟨z, hz, hzs⟩, hb⟩ := hrel
    have hbz := hb.size
    have hCz := hblk.lt
    by_cases hlt : k < l.length
    · obtain ⟨b2, off2, p, s, e, hx, hbD, c0, c1, -⟩ := beads_at (Rep.at_ hl hb) hlt
      injection e with e
      injection e with e1 e2 _
      subst e1 e2
      have hbr : b < wr.heap.size := by omega
      have HB := Lib.hid (okBead_at HOK.out hx.out)
      have hxb0 := hxb.out.1
      have hxb1 := hxb.out.2
      have hp0 := HB.out.1
      have hp1 := HB.out.2.1
      have k0 := hblk.c20
      have k1 := hblk.c21
      by_cases hps : 0 < p - x
      · have HN := Lib.hid (high_gt hx.out hlo.out hps)
        go_wp2
        go_region_held3 (fun W => Below wr.heap.size wr W ∧ W.cell? ⟨b, off + k * 2, none⟩ = some (.int .i64 p) ∧ W.cell? ⟨b, off + k * 2 + 1, none⟩ = some (.int .i64 s) ∧ W.cell? ⟨w.heap.size + 1, 0, none⟩ = some (.int .i64 x) ∧ W.cell? ⟨w.heap.size + 1, 1, none⟩ = some (.int .i64 y))
          (first
            | exact ⟨(Below.refl _ _).drew, c0, c1, k0, k1⟩
            | exact ⟨hSa, (hSa.cell (p := ⟨b, off + k * 2, none⟩) hbr).trans c0, (hSa.cell (p := ⟨b, off + k * 2 + 1, none⟩) hbr).trans c1, (hSa.cell (p := ⟨w.heap.size + 1, 0, none⟩) hCz).trans k0, (hSa.cell (p := ⟨w.heap.size + 1, 1, none⟩) hCz).trans k1⟩)
          (first
            | (go_at_call 42
               go_split_ands
               refine (at_any _ _ _ _ _ hp0 hp1 hxb0 hxb1).mono ?_
               rintro e W1 ⟨rfl, hq⟩
               have hSa := bstep (B := wr.heap.size) (a := wr) (by assumption) (Below.size (by assumption)) hq))
        all_goals
          go_split_ands
          have q := hblk.below (w' := W1) (by assumption) hCz
          have qz := hz.below (w' := W1) (by assumption) (by omega)
          have f0 := q.free 0
          have f1 := q.free 1
          go_wp2
          go_roundw
          case rel =>
            refine ⟨k + 1, p, s, by omega, by omega, by go_num, HN.out, ⟨hp0, hp1⟩, ?_, ⟨z, (qz.far (p := ⟨w.heap.size + 1, 0, none⟩) (by show w.heap.size ≠ w.heap.size + 1; omega) _).far (p := ⟨w.heap.size + 1, 1, none⟩) (by show w.heap.size ≠ w.heap.size + 1; omega) _, hzs⟩, ?_⟩
            · exact (q.set_ 0 (.int .i64 p)).set_ 1 (.int .i64 s)
            · exact ((bstep hb hbz (by assumption)).setCell (p := ⟨w.heap.size + 1, 0, none⟩) (by show w.heap.size ≤ w.heap.size + 1; omega) _).setCell (p := ⟨w.heap.size + 1, 1, none⟩) (by show w.heap.size ≤ w.heap.size + 1; omega) _
          case measure => simp [intOf]; omega
      · have HN := Lib.hid (high_le hx.out hlo.out hps)
        go_wp2
        go_region_held3 (fun W => Below wr.heap.size wr W ∧ W.cell? ⟨b, off + k * 2, none⟩ = some (.int .i64 p) ∧ W.cell? ⟨b, off + k * 2 + 1, none⟩ = some (.int .i64 s) ∧ W.cell? ⟨w.heap.size + 1, 0, none⟩ = some (.int .i64 x) ∧ W.cell? ⟨w.heap.size + 1, 1, none⟩ = some (.int .i64 y))
          (first
            | exact ⟨(Below.refl _ _).drew, c0, c1, k0, k1⟩
            | exact ⟨hSa, (hSa.cell (p := ⟨b, off + k * 2, none⟩) hbr).trans c0, (hSa.cell (p := ⟨b, off + k * 2 + 1, none⟩) hbr).trans c1, (hSa.cell (p := ⟨w.heap.size + 1, 0, none⟩) hCz).trans k0, (hSa.cell (p := ⟨w.heap.size + 1, 1, none⟩) hCz).trans k1⟩)
          (first
            | (go_at_call 42
               go_split_ands
               refine (at_any _ _ _ _ _ hp0 hp1 hxb0 hxb1).mono ?_
               rintro e W1 ⟨rfl, hq⟩
               have hSa := bstep (B := wr.heap.size) (a := wr) (by assumption) (Below.size (by assumption)) hq))
        all_goals
          go_split_ands
          have q := hblk.below (w' := W1) (by assumption) hCz
          have qz := hz.below (w' := W1) (by assumption) (by omega)
          go_wp2
          go_roundw
          case rel => exact ⟨k + 1, x, y, by omega, by omega, by go_num, HN.out, ⟨hxb0, hxb1⟩, q, ⟨z, qz, hzs⟩, bstep hb hbz (by assumption)⟩
          case measure => simp [intOf]; omega
    · obtain rfl : k = l.length := by omega
      have k0 := hblk.c20
      have k1 := hblk.c21
      obtain ⟨z0, z1, rfl⟩ : ∃ z0 z1, z = #[z0, z1] := by
        rcases z with ⟨zl⟩
        match zl, hzs with
        | [a, b], _ => exact ⟨a, b, rfl⟩
      have z0' := hz.c20
      have z1' := hz.c21
      have f0 := hz.free 0
      have f1 := hz.free 1
      have hb2 : Below w.heap.size w ((wr.setCell ⟨w.heap.size, 0, none⟩ (.int .i64 x)).setCell ⟨w.heap.size, 1, none⟩ (.int .i64 y)) := (hb.setCell (p := ⟨w.heap.size, 0, none⟩) (Nat.le_refl _) _).setCell (p := ⟨w.heap.size, 1, none⟩) (Nat.le_refl _) _
      have hz2 : Blk ((wr.setCell ⟨w.heap.size, 0, none⟩ (.int .i64 x)).setCell ⟨w.heap.size, 1, none⟩ (.int .i64 y)) w.heap.size 45 #[.int .i64 x, .int .i64 y] := (hz.set_ 0 (.int .i64 x)).set_ 1 (.int .i64 y)
      go_wp2
      exact bodyPost_ret (v := .agg #[.int .i64 x, .int .i64 y]) (results_cell_row (ty := 45) rfl _ _ w.heap.size 45 #[.int .i64 x, .int .i64 y] (0, 0) _ rfl hz2 Try.underlying45 rfl bead_size) rfl ⟨y, by rw [hlo.out], hb2⟩

/-- the panel: what newPanel leaves. -/
def panelCells (vl vb : Value) (reach stiff tw : Int) : Array Value := #[vl, .int .i64 reach, .int .i64 stiff, vb, .int .i64 tw]
end Go.Proofs.Ytgiphdjblnfjcaa

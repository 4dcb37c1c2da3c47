/- Chapter 26: begin, and the library's MinFunc at points, by walking their text. -/
import Derived.Test.YtcnkocnajamclaaTorW3
namespace Go.Proofs.Ytcnkocnajamclaa
open Go Go.RowKit

def Near (q : Pt) : Prop := (-1099511627776 ≤ q.1 ∧ q.1 ≤ 1099511627776) ∧ -1099511627776 ≤ q.2 ∧ q.2 ≤ 1099511627776
def cmpP (p q : Pt) : Int := if p.2 != q.2 then p.2 - q.2 else p.1 - q.1
theorem lowB_cmp (p q : Pt) : lowB p q = decide (cmpP p q < 0) := by
  unfold lowB cmpP
  split
  · rw [Bool.eq_iff_iff, decide_eq_true_eq, decide_eq_true_eq]; omega
  · rw [Bool.eq_iff_iff, decide_eq_true_eq, decide_eq_true_eq]; omega
theorem lowB_irrefl (p : Pt) : lowB p p = false := by rw [lowB_cmp]; unfold cmpP; simp
theorem min_one {p : List Pt} {q : Pt} (h : p[0]? = some q) : minTo p 1 = q := by
  rw [minTo, minTo, getD_at h, lowB_irrefl]; simp
theorem min_lt {p : List Pt} {k : Nat} {q m : Pt} (h : p[k]? = some q) (hm : minTo p k = m) (hl : cmpP q m < 0) : minTo p (k + 1) = q := by
  rw [minTo, getD_at h, hm, lowB_cmp, if_pos (decide_eq_true hl)]
theorem min_ge {p : List Pt} {k : Nat} {q m : Pt} (h : p[k]? = some q) (hm : minTo p k = m) (hl : ¬ cmpP q m < 0) : minTo p (k + 1) = m := by
  rw [minTo, getD_at h, hm, lowB_cmp, if_neg (by rw [decide_eq_false hl]; decide)]
set_option maxHeartbeats 400000 in
theorem cmp_any (x y x' y' : Int) (w : World) (h : Near (x, y)) (h' : Near (x', y')) :
    Calls Try.prog 72 #[.agg #[.int .i64 x, .int .i64 y], .agg #[.int .i64 x', .int .i64 y']] w (Ret (.int .i64 (cmpP (x, y) (x', y'))) w) := by
  obtain ⟨⟨a1, a2⟩, a3, a4⟩ := h
  obtain ⟨⟨b1, b2⟩, b3, b4⟩ := h'
  simp only [] at a1 a2 a3 a4 b1 b2 b3 b4
  have hw : Below w.heap.size w ((w.alloc (.cells #[.int .i64 x, .int .i64 y] 74)).alloc (.cells #[.int .i64 x', .int .i64 y'] 74)) := ((Below.refl _ _).alloc (Nat.le_refl _) _).alloc (by simp) _
  by_cases he : y = y'
  · have HC : Hid (cmpP (x, y) (x', y') = x - x') := by show cmpP (x, y) (x', y') = _; unfold cmpP; simp [he]
    have hb : (y != y') = false := ine_f he
    clear he
    go_enter Try.func72, Try.ntmps72
    go_wp2
    go_ret
    exact ⟨by rw [HC.out]; rfl, hw⟩
  · have HC : Hid (cmpP (x, y) (x', y') = y - y') := by show cmpP (x, y) (x', y') = _; unfold cmpP; simp [he]
    have hb : (y != y') = true := ine_t he
    clear he
    go_enter Try.func72, Try.ntmps72
    go_wp2
    go_ret
    exact ⟨by rw [HC.out]; rfl, hw⟩
theorem pt_size : (Try.prog.info? 74).map (·.size) = some 2 := by kernel_rfl
theorem cell2_size {z : Array Value} (h : z.size = 2) : ∃ z0 z1, z = #[z0, z1] := by
  rcases z with ⟨zl⟩
  match zl, h with
  | [a, b], _ => exact ⟨a, b, rfl⟩
set_option maxRecDepth 100000 in
set_option maxHeartbeats 800000 in
theorem minPt_any (A : Option Addr) (n c : Nat) (p : List Pt) (w : World) (hp : ptsR.R w (Lt w) p [.slice A n c]) (hok : okRing p = true) :
    Calls Try.prog 71 #[.slice A n c, .func (.func 72) #[] #[]] w (Ret (.agg (prArr (minPt p))) w) := by
  obtain ⟨rfl, hm⟩ := slice_len hp
  have hpos := okRing_pos hok
  have HN : Hid (∀ q ∈ p, Near q) := fun q hq => by have := okRing_near hok q hq; exact ⟨⟨this.1, this.2.1⟩, this.2.2⟩
  obtain ⟨b, off, x0, y0, rfl, hx0, hbD, a0, a1, -⟩ := pairs_at hp hpos
  have hbl : b < w.heap.size := hbD
  have hbn : ¬ b = w.heap.size := by omega
  clear hbD
  rw [Nat.zero_mul, Nat.add_zero] at a0 a1
  have H1 := Lib.hid (min_one hx0.out)
  have HN0 := Lib.hid (HN.out _ (List.mem_of_getElem? hx0.out))
  go_enter Try.func71, Try.ntmps71
  go_wp2
  go_loopw [6] (fun i wr => ∃ (k : Nat) (x y : Int), 1 ≤ k ∧ k ≤ p.length ∧ i = .int .i64 k ∧ Hid (minTo p k = (x, y)) ∧ Hid (Near (x, y)) ∧ Blk wr (w.heap.size + 1) 74 #[.int .i64 x, .int .i64 y] ∧
      (∃ z, Blk wr w.heap.size 74 z ∧ z.size = 2) ∧ Below w.heap.size w wr) (fun i _ => p.length - (intOf i).toNat)
  case atStart =>
    exact ⟨1, x0, y0, Nat.le_refl _, hpos, rfl, H1, HN0, by simpa using Blk.new (w.alloc (.cells #[.int .i64 0, .int .i64 0] 74)) 74 #[.int .i64 x0, .int .i64 y0], ⟨_, (Blk.new w 74 #[.int .i64 0, .int .i64 0]).alloc _, rfl⟩, ((Below.refl _ _).alloc (Nat.le_refl _) _).alloc (by simp) _⟩
  case round =>
    obtain ⟨k, x, y, hk1, hk, rfl, hlo, hxb, hblk, ⟨z, hz, hzs⟩, hb⟩ := hrel
    have hbz := hb.size
    have hCz := hblk.lt
    by_cases hlt : k < p.length
    · obtain ⟨b2, off2, px, py, e, hx, hbD, c0, c1, -⟩ := pairs_at (Rep.at_ hp hb) hlt
      injection e with e
      injection e with e1 e2 _
      subst e1 e2
      have hbr : b < wr.heap.size := by omega
      have HB := Lib.hid (HN.out _ (List.mem_of_getElem? hx.out))
      have k0 := hblk.c20
      have k1 := hblk.c21
      by_cases hps : cmpP (px, py) (x, y) < 0
      all_goals
        first
          | have HNX := Lib.hid (min_lt hx.out hlo.out hps)
          | have HNX := Lib.hid (min_ge hx.out hlo.out hps)
        generalize hcm : cmpP (px, py) (x, y) = cm at *
        have HCM := Lib.hid hcm
        clear hcm
        go_wp2
        go_region_held3 (fun W => Below wr.heap.size wr W ∧ W.cell? ⟨b, off + k * 2, none⟩ = some (.int .i64 px) ∧ W.cell? ⟨b, off + k * 2 + 1, none⟩ = some (.int .i64 py) ∧ W.cell? ⟨w.heap.size + 1, 0, none⟩ = some (.int .i64 x) ∧ W.cell? ⟨w.heap.size + 1, 1, none⟩ = some (.int .i64 y))
          (first
            | exact ⟨(Below.refl _ _).drew, c0, c1, k0, k1⟩
            | exact ⟨hSa, (hSa.cell (p := ⟨b, off + k * 2, none⟩) hbr).trans c0, (hSa.cell (p := ⟨b, off + k * 2 + 1, none⟩) hbr).trans c1, (hSa.cell (p := ⟨w.heap.size + 1, 0, none⟩) hCz).trans k0, (hSa.cell (p := ⟨w.heap.size + 1, 1, none⟩) hCz).trans k1⟩)
          (first
            | (go_at_call 72
               go_split_ands
               refine (cmp_any _ _ _ _ _ HB.out hxb.out).mono ?_
               rintro e W1 ⟨he, hq⟩
               rw [HCM.out] at he
               subst he
               have hSa := bstep (B := wr.heap.size) (a := wr) (by assumption) (Below.size (by assumption)) hq))
        all_goals
          go_split_ands
          have q := hblk.below (w' := W1) (by assumption) hCz
          have qz := hz.below (w' := W1) (by assumption) (by omega)
          have f0 := q.free 0
          have f1 := q.free 1
          go_wp2
          go_roundw
          case rel =>
            first
              | exact ⟨k + 1, x, y, by omega, by omega, by go_num, HNX.out, hxb, q, ⟨z, qz, hzs⟩, bstep hb hbz (by assumption)⟩
              | (refine ⟨k + 1, px, py, by omega, by omega, by go_num, HNX.out, HB, ?_, ⟨z, (qz.far (p := ⟨w.heap.size + 1, 0, none⟩) (by show w.heap.size ≠ w.heap.size + 1; omega) _).far (p := ⟨w.heap.size + 1, 1, none⟩) (by show w.heap.size ≠ w.heap.size + 1; omega) _, hzs⟩, ?_⟩
                 · exact (q.set_ 0 (.int .i64 px)).set_ 1 (.int .i64 py)
                 · exact ((bstep hb hbz (by assumption)).setCell (p := ⟨w.heap.size + 1, 0, none⟩) (by show w.heap.size ≤ w.heap.size + 1; omega) _).setCell (p := ⟨w.heap.size + 1, 1, none⟩) (by show w.heap.size ≤ w.heap.size + 1; omega) _)
          case measure => simp [intOf]; omega
    · obtain rfl : k = p.length := by omega
      have k0 := hblk.c20
      have k1 := hblk.c21
      obtain ⟨z0, z1, rfl⟩ := cell2_size hzs
      have z0' := hz.c20
      have z1' := hz.c21
      have f0 := hz.free 0
      have f1 := hz.free 1
      have hb2 : Below w.heap.size w ((wr.setCell ⟨w.heap.size, 0, none⟩ (.int .i64 x)).setCell ⟨w.heap.size, 1, none⟩ (.int .i64 y)) := (hb.setCell (p := ⟨w.heap.size, 0, none⟩) (Nat.le_refl _) _).setCell (p := ⟨w.heap.size, 1, none⟩) (Nat.le_refl _) _
      have hz2 : Blk ((wr.setCell ⟨w.heap.size, 0, none⟩ (.int .i64 x)).setCell ⟨w.heap.size, 1, none⟩ (.int .i64 y)) w.heap.size 74 #[.int .i64 x, .int .i64 y] := (hz.set_ 0 (.int .i64 x)).set_ 1 (.int .i64 y)
      go_wp2
      exact bodyPost_ret (v := .agg #[.int .i64 x, .int .i64 y]) (results_cell_row (ty := 74) rfl _ _ w.heap.size 74 #[.int .i64 x, .int .i64 y] (0, 0) _ rfl hz2 Try.underlying74 rfl pt_size) rfl ⟨by unfold minPt; rw [hlo.out]; rfl, hb2⟩
end Go.Proofs.Ytcnkocnajamclaa

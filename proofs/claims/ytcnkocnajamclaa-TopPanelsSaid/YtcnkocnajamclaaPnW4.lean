/- The panel line: Minutes of the program at a line that is right, by walking its text. -/
import Derived.Test.YtcnkocnajamclaaPnW3
import Derived.Test.YtcnkocnajamclaaFlInts
import Derived.Test.YtcnkocnajamclaaRegion
namespace Go.Proofs.Ytcnkocnajamclaa
open Go Go.RowKit
set_option linter.unusedSimpArgs false

abbrev pnA (p : Pn) : Array Value := #[.string p.1, .int .i64 p.2.1, .int .i64 p.2.2.1, .int .i64 p.2.2.2.1, .int .i64 p.2.2.2.2.1, .int .i64 p.2.2.2.2.2]
def MinPost (p : Pn) (x : Ln) (w : World) (e : Ending) (w' : World) : Prop :=
  ∃ v n, e = .returned (.tuple #[v, .int .i64 n]) ∧ Below w.heap.size w w' ∧ if panB p = true then n = 0 ∧ (∃ B, w.heap.size ≤ B ∧ w'.ownsRow B 3 1 v x.1.length ((minutesF p x).map (Value.int .i64))) else n = 9 ∧ v = .slice none 0 0
/-- a panel and a line in boxes of their own. -/
structure PnBox (w W : World) (p : Pn) (A B C D : Option Addr) (n a b c d : Nat) : Prop where
  bl : Below w.heap.size w W
  bp : Blk W w.heap.size 65 (pnA p)
  bx : Blk W (w.heap.size + 1) 25 #[.slice A n a, .slice B n b, .slice C n c, .slice D n d]
theorem PnBox.below {w W W' : World} {p : Pn} {A B C D : Option Addr} {n a b c d : Nat} (h : PnBox w W p A B C D n a b c d) (hb : Below W.heap.size W W') : PnBox w W' p A B C D n a b c d :=
  ⟨bstep h.bl h.bl.size hb, h.bp.below hb h.bp.lt, h.bx.below hb h.bx.lt⟩
theorem PnBox.x0 {w W : World} {p : Pn} {A B C D : Option Addr} {n a b c d : Nat} (h : PnBox w W p A B C D n a b c d) : W.cell? ⟨w.heap.size + 1, 0, none⟩ = some (.slice A n a) := h.bx.cell 0
theorem PnBox.x1 {w W : World} {p : Pn} {A B C D : Option Addr} {n a b c d : Nat} (h : PnBox w W p A B C D n a b c d) : W.cell? ⟨w.heap.size + 1, 1, none⟩ = some (.slice B n b) := h.bx.cell 1
theorem PnBox.x2 {w W : World} {p : Pn} {A B C D : Option Addr} {n a b c d : Nat} (h : PnBox w W p A B C D n a b c d) : W.cell? ⟨w.heap.size + 1, 2, none⟩ = some (.slice C n c) := h.bx.cell 2
theorem PnBox.x3 {w W : World} {p : Pn} {A B C D : Option Addr} {n a b c d : Nat} (h : PnBox w W p A B C D n a b c d) : W.cell? ⟨w.heap.size + 1, 3, none⟩ = some (.slice D n d) := h.bx.cell 3
theorem PnBox.p1 {w W : World} {nm : ByteArray} {p1 p2 p3 p4 ms : Int} {A B C D : Option Addr} {n a b c d : Nat} (h : PnBox w W (nm, p1, p2, p3, p4, ms) A B C D n a b c d) : W.cell? ⟨w.heap.size, 1, none⟩ = some (.int .i64 p1) := h.bp.cell 1
theorem PnBox.p2 {w W : World} {nm : ByteArray} {p1 p2 p3 p4 ms : Int} {A B C D : Option Addr} {n a b c d : Nat} (h : PnBox w W (nm, p1, p2, p3, p4, ms) A B C D n a b c d) : W.cell? ⟨w.heap.size, 2, none⟩ = some (.int .i64 p2) := h.bp.cell 2
theorem PnBox.p3 {w W : World} {nm : ByteArray} {p1 p2 p3 p4 ms : Int} {A B C D : Option Addr} {n a b c d : Nat} (h : PnBox w W (nm, p1, p2, p3, p4, ms) A B C D n a b c d) : W.cell? ⟨w.heap.size, 3, none⟩ = some (.int .i64 p3) := h.bp.cell 3
theorem PnBox.p4 {w W : World} {nm : ByteArray} {p1 p2 p3 p4 ms : Int} {A B C D : Option Addr} {n a b c d : Nat} (h : PnBox w W (nm, p1, p2, p3, p4, ms) A B C D n a b c d) : W.cell? ⟨w.heap.size, 4, none⟩ = some (.int .i64 p4) := h.bp.cell 4
/-- a station's minutes, step by step. -/
theorem min_parts {nm : ByteArray} {p1 p2 p3 p4 ms : Int} {q0 q1 q2 q3 : List Int} {k : Nat} {e0 e1 e2 e3 : Int} (hp : panB (nm, p1, p2, p3, p4, ms) = true) (hL : LineOk (q0, q1, q2, q3)) (g0 : q0[k]? = some e0) (g1 : q1[k]? = some e1) (g2 : q2[k]? = some e2) (g3 : q3[k]? = some e3) :
    ∃ m1 m2 m3 m4 d3 d4 t1 t2 t3, IntKind.i64.wrap (p1 * e0) = m1 ∧ IntKind.i64.wrap (p2 * e1) = m2 ∧ IntKind.i64.wrap (p3 * e2) = m3 ∧ IntKind.i64.wrap (p4 * e3) = m4 ∧ (0 ≤ m3 ∧ m3 ≤ 8388608000) ∧ (0 ≤ m4 ∧ m4 ≤ 8388608000) ∧
      IntKind.i64.wrap (m1 + m2) = t1 ∧ IntKind.i64.wrap (t1 + d3) = t2 ∧ IntKind.i64.wrap (t2 + d4) = t3 ∧ minT (nm, p1, p2, p3, p4, ms) (q0, q1, q2, q3) k = t3 ∧ ceilK m3 = d3 ∧ ceilK m4 = d4 ∧ inI64 t3 := by
  obtain ⟨h1, h2, h3, h4⟩ := panB_iff.1 hp
  dsimp only at h1 h2 h3 h4
  have r0 := hL.r0 e0 (List.mem_of_getElem? g0)
  have r1 := hL.r1 e1 (List.mem_of_getElem? g1)
  have r2 := hL.r2 e2 (List.mem_of_getElem? g2)
  have r3 := hL.r3 e3 (List.mem_of_getElem? g3)
  have m1 := mul_rng h1.1 h1.2 r0.1 r0.2
  have m2 := mul_rng h2.1 h2.2 r1.1 r1.2
  have m3 := mul_rng h3.1 h3.2 r2.1 r2.2
  have m4 := mul_rng h4.1 h4.2 r3.1 r3.2
  have c3 := ceilK_bd m3.1 m3.2
  have c4 := ceilK_bd m4.1 m4.2
  refine ⟨_, _, _, _, _, _, _, _, _, IntWalk.i64_in (p1 * e0) (by omega), IntWalk.i64_in (p2 * e1) (by omega), IntWalk.i64_in (p3 * e2) (by omega), IntWalk.i64_in (p4 * e3) (by omega), ⟨m3.1, by omega⟩, ⟨m4.1, by omega⟩, IntWalk.i64_in (p1 * e0 + p2 * e1) (by omega), IntWalk.i64_in (p1 * e0 + p2 * e1 + ceilK (p3 * e2)) (by omega), IntWalk.i64_in (p1 * e0 + p2 * e1 + ceilK (p3 * e2) + ceilK (p4 * e3)) (by omega), ?_, rfl, rfl, by unfold inI64; omega⟩
  unfold minT
  simp only [List.getD_eq_getElem?_getD, g0, g1, g2, g3, Option.getD_some]
theorem cell_kept {w w' : World} {a : Addr} {v : Value} (h : Below w.heap.size w w') (hc : w.cell? a = some v) : w'.cell? a = some v := by
  rw [h.cell (World.block_lt_of_cell? w a hc)]
  exact hc
def MnC (w : World) (p1 p2 p3 p4 : Int) (b0 o0 b1 o1 b2 o2 b3 o3 n a b c d k : Nat) (e0 e1 e2 e3 : Int) (x : World) : Prop :=
  x.cell? ⟨w.heap.size + 1, 0, none⟩ = some (.slice (some ⟨b0, o0, none⟩) n a) ∧ x.cell? ⟨w.heap.size + 1, 1, none⟩ = some (.slice (some ⟨b1, o1, none⟩) n b) ∧ x.cell? ⟨w.heap.size + 1, 2, none⟩ = some (.slice (some ⟨b2, o2, none⟩) n c) ∧ x.cell? ⟨w.heap.size + 1, 3, none⟩ = some (.slice (some ⟨b3, o3, none⟩) n d) ∧ x.cell? ⟨w.heap.size, 1, none⟩ = some (.int .i64 p1) ∧ x.cell? ⟨w.heap.size, 2, none⟩ = some (.int .i64 p2) ∧ x.cell? ⟨w.heap.size, 3, none⟩ = some (.int .i64 p3) ∧ x.cell? ⟨w.heap.size, 4, none⟩ = some (.int .i64 p4) ∧ x.cell? ⟨b0, o0 + k, none⟩ = some (.int .i64 e0) ∧ x.cell? ⟨b1, o1 + k, none⟩ = some (.int .i64 e1) ∧ x.cell? ⟨b2, o2 + k, none⟩ = some (.int .i64 e2) ∧ x.cell? ⟨b3, o3 + k, none⟩ = some (.int .i64 e3)
theorem MnC.below {w : World} {p1 p2 p3 p4 : Int} {b0 o0 b1 o1 b2 o2 b3 o3 n a b c d k : Nat} {e0 e1 e2 e3 : Int} {x y : World} (h : MnC w p1 p2 p3 p4 b0 o0 b1 o1 b2 o2 b3 o3 n a b c d k e0 e1 e2 e3 x) (hb : Below x.heap.size x y) : MnC w p1 p2 p3 p4 b0 o0 b1 o1 b2 o2 b3 o3 n a b c d k e0 e1 e2 e3 y := by
  obtain ⟨h0, h1, h2, h3, h4, h5, h6, h7, h8, h9, h10, h11⟩ := h
  exact ⟨cell_kept hb h0, cell_kept hb h1, cell_kept hb h2, cell_kept hb h3, cell_kept hb h4, cell_kept hb h5, cell_kept hb h6, cell_kept hb h7, cell_kept hb h8, cell_kept hb h9, cell_kept hb h10, cell_kept hb h11⟩
set_option maxRecDepth 100000 in
set_option maxHeartbeats 4000000 in
theorem pnMin_any (A B C D : Option Addr) (a b c d : Nat) (p : Pn) (x : Ln) (w : World) (hx : LnAt w x A B C D a b c d) (hL : LineOk x) :
    Calls Try.prog 26 #[.agg (pnA p), .agg (lnA x A B C D a b c d)] w (MinPost p x w) := by
  obtain ⟨W, hW⟩ : ∃ W, W = (w.alloc (.cells (pnA p) 65)).alloc (.cells (lnA x A B C D a b c d) 25) := ⟨_, rfl⟩
  have e1 : (w.alloc (.cells (pnA p) 65)).heap.size = w.heap.size + 1 := by rw [World.size_alloc]
  have hb0 : Below w.heap.size w W := by rw [hW]; exact ((Below.refl w.heap.size w).alloc (Nat.le_refl _) _).alloc (by rw [e1]; omega) _
  have bp : Blk W w.heap.size 65 (pnA p) := by rw [hW]; exact (Blk.new w _ _).alloc _
  have bx : Blk W (w.heap.size + 1) 25 (lnA x A B C D a b c d) := by rw [hW, ← e1]; exact Blk.new _ _ _
  have HX := Lib.hid (hx.below hb0)
  have CL := Lib.hid (fun W' (hb : Below W.heap.size W W') => pnLine_any A B C D a b c d x W' ((hx.below hb0).below hb) hL)
  obtain ⟨q0, q1, q2, q3⟩ := x
  obtain ⟨nm, p1, p2, p3, p4, ms⟩ := p
  have l1 := hL.l1
  have l2 := hL.l2
  have l3 := hL.l3
  have lp := hL.pos
  have lm := hL.most
  have HL := Lib.hid hL
  dsimp only at l1 l2 l3 lp lm bx
  unfold lnA at bx
  dsimp only at bx
  rw [l1, l2, l3] at bx
  have HBX := Lib.hid (PnBox.mk hb0 bp bx)
  have CL : Hid (∀ W', Below W.heap.size W W' → Calls Try.prog 25 #[.agg #[.slice A q0.length a, .slice B q0.length b, .slice C q0.length c, .slice D q0.length d]] W' (LinePost 0 W')) := by
    intro W' hb
    have h := CL.out W' hb
    unfold lnA at h
    dsimp only at h
    rwa [l1, l2, l3] at h
  have s0 := HBX.out.x0
  have s1 := HBX.out.x1
  have s2 := HBX.out.x2
  have s3 := HBX.out.x3
  have v1 := HBX.out.p1
  have v2 := HBX.out.p2
  have v3 := HBX.out.p3
  have v4 := HBX.out.p4
  clear hx hb0 bp bx hL e1
  obtain ⟨i0, hi0, hz0, hz1, hz2⟩ := info_parts fl_int_info
  go_enter Try.func26, Try.ntmps26
  go_wp2_with fail
  rw [← hW]
  refine (CL.out _ (Below.refl _ _)).mono ?_
  rintro e w1 ⟨rfl, hb1⟩
  have HQ := Lib.hid (HBX.out.below hb1)
  have HB2 := Lib.hid HQ.out.bl
  have HX1 := Lib.hid (HX.out.below hb1)
  clear s0 s1 s2 s3 v1 v2 v3 v4 hb1 hW
  have s0 := HQ.out.x0
  have s1 := HQ.out.x1
  have s2 := HQ.out.x2
  have s3 := HQ.out.x3
  have v1 := HQ.out.p1
  have v2 := HQ.out.p2
  have v3 := HQ.out.p3
  have v4 := HQ.out.p4
  rcases Bool.eq_false_or_eq_true (rngB p1 256) with b0 | b0
  · rcases Bool.eq_false_or_eq_true (rngB p2 256) with b1 | b1
    · rcases Bool.eq_false_or_eq_true (rngB p3 8388608) with b2 | b2
      · rcases Bool.eq_false_or_eq_true (rngB p4 8388608) with b3 | b3
        · skip
          have h : panB (nm, p1, p2, p3, p4, ms) = true := by show (rngB p1 256 && rngB p2 256 && rngB p3 8388608 && rngB p4 8388608) = true; rw [b0, b1, b2, b3]; rfl
          have HP : Hid (panB (nm, p1, p2, p3, p4, ms) = true) := h
          clear h
          have F0 : Hid (∀ w, Calls Try.prog 59 #[.int .i64 p1, .int .i64 0, .int .i64 256] w fun e w' => e = .returned (.bool true) ∧ w' = w) := fun w => by have := pnFrom_any p1 0 256 w; rwa [show (decide (0 ≤ p1) && decide (p1 ≤ 256)) = true from b0] at this
          have F1 : Hid (∀ w, Calls Try.prog 59 #[.int .i64 p2, .int .i64 0, .int .i64 256] w fun e w' => e = .returned (.bool true) ∧ w' = w) := fun w => by have := pnFrom_any p2 0 256 w; rwa [show (decide (0 ≤ p2) && decide (p2 ≤ 256)) = true from b1] at this
          have F2 : Hid (∀ w, Calls Try.prog 59 #[.int .i64 p3, .int .i64 0, .int .i64 8388608] w fun e w' => e = .returned (.bool true) ∧ w' = w) := fun w => by have := pnFrom_any p3 0 8388608 w; rwa [show (decide (0 ≤ p3) && decide (p3 ≤ 8388608)) = true from b2] at this
          have F3 : Hid (∀ w, Calls Try.prog 59 #[.int .i64 p4, .int .i64 0, .int .i64 8388608] w fun e w' => e = .returned (.bool true) ∧ w' = w) := fun w => by have := pnFrom_any p4 0 8388608 w; rwa [show (decide (0 ≤ p4) && decide (p4 ≤ 8388608)) = true from b3] at this
          clear b0 b1 b2 b3
          go_wp2_with fail
          refine (F0.out _).mono ?_
          rintro e w2 ⟨rfl, hw⟩
          rw [hw]
          clear hw w2
          go_wp2_with fail
          refine (F1.out _).mono ?_
          rintro e w3 ⟨rfl, hw⟩
          rw [hw]
          clear hw w3
          go_wp2_with fail
          refine (F2.out _).mono ?_
          rintro e w4 ⟨rfl, hw⟩
          rw [hw]
          clear hw w4
          go_wp2_with fail
          refine (F3.out _).mono ?_
          rintro e w5 ⟨rfl, hw⟩
          rw [hw]
          clear hw w5
          go_wp2_with fail
          clear s0 s1 s2 s3 v1 v2 v3 v4 F0 F1 F2 F3
          go_loopw [7, 43] (fun v iv wr => ∃ k : Nat, k ≤ q0.length ∧ iv = .int .i64 k ∧ Hid (Below w1.heap.size w1 wr) ∧ Hid (wr.ownsRow w1.heap.size 3 1 v k (((List.range k).map (minT (nm, p1, p2, p3, p4, ms) (q0, q1, q2, q3))).map (Value.int .i64)))) (fun _ iv _ => q0.length - (intOf iv).toNat)
          case atStart => exact ⟨0, Nat.zero_le _, rfl, Below.refl _ _, World.ownsRow_nil _ _ _ _⟩
          case round =>
            obtain ⟨k, hk, rfl, hbw, hown⟩ := hrel
            by_cases hlt : k < q0.length
            · have hlt' : (k : Int) < (q0.length : Int) := by omega
              obtain ⟨b0, o0, e0, rfl, g0, -, c0, -, -⟩ := ints_at HX1.out.h0 hlt
              obtain ⟨b1, o1, e1, rfl, g1, -, c1, -, -⟩ := ints_at HX1.out.h1 (k := k) (by show k < q1.length; omega)
              obtain ⟨b2, o2, e2, rfl, g2, -, c2, -, -⟩ := ints_at HX1.out.h2 (k := k) (by show k < q2.length; omega)
              obtain ⟨b3, o3, e3, rfl, g3, -, c3, -, -⟩ := ints_at HX1.out.h3 (k := k) (by show k < q3.length; omega)
              have hq := HQ.out
              have HC1 : Hid (MnC w p1 p2 p3 p4 b0 o0 b1 o1 b2 o2 b3 o3 q0.length a b c d k e0 e1 e2 e3 w1) := ⟨hq.x0, hq.x1, hq.x2, hq.x3, hq.p1, hq.p2, hq.p3, hq.p4, c0, c1, c2, c3⟩
              clear hq c0 c1 c2 c3
              obtain ⟨m1, m2, m3, m4, d3, d4, t1, t2, t3, M1, M2, M3, M4, N3, N4, T1, T2, T3, hm, D3, D4, hi⟩ := min_parts (nm := nm) (ms := ms) HP.out HL.out g0.out g1.out g2.out g3.out
              have HM := Lib.hid hm
              have HI := Lib.hid hi
              have CE3 : Hid (∀ W, Calls Try.prog 60 #[.int .i64 m3, .int .i64 1000] W (CeilPost m3 W)) := fun W => pnCeil_any m3 W N3.1 N3.2
              have CE4 : Hid (∀ W, Calls Try.prog 60 #[.int .i64 m4, .int .i64 1000] W (CeilPost m4 W)) := fun W => pnCeil_any m4 W N4.1 N4.2
              have HD3 := Lib.hid D3
              have HD4 := Lib.hid D4
              clear hm hi D3 D4 N3 N4
              go_wp2
              refine wp_region_held_drew (S := fun x => x.cell? ⟨w.heap.size + 1, 0, none⟩ = some (.slice (some ⟨b0, o0, none⟩) q0.length a) ∧ x.cell? ⟨w.heap.size + 1, 1, none⟩ = some (.slice (some ⟨b1, o1, none⟩) q0.length b) ∧ x.cell? ⟨w.heap.size + 1, 2, none⟩ = some (.slice (some ⟨b2, o2, none⟩) q0.length c) ∧ x.cell? ⟨w.heap.size + 1, 3, none⟩ = some (.slice (some ⟨b3, o3, none⟩) q0.length d) ∧ x.cell? ⟨w.heap.size, 1, none⟩ = some (.int .i64 p1) ∧ x.cell? ⟨w.heap.size, 2, none⟩ = some (.int .i64 p2) ∧ x.cell? ⟨w.heap.size, 3, none⟩ = some (.int .i64 p3) ∧ x.cell? ⟨w.heap.size, 4, none⟩ = some (.int .i64 p4) ∧ x.cell? ⟨b0, o0 + k, none⟩ = some (.int .i64 e0) ∧ x.cell? ⟨b1, o1 + k, none⟩ = some (.int .i64 e1) ∧ x.cell? ⟨b2, o2 + k, none⟩ = some (.int .i64 e2) ∧ x.cell? ⟨b3, o3 + k, none⟩ = some (.int .i64 e3)) (by kernel_rfl) (HC1.out.below hbw.out.drew) (fun hH => ?_)
              refine take_run (i := 0) (v := ?_) (by decide) (by kernel_rfl) (by kernel_rfl) (by kernel_rfl) (fun _ _ _ _ h => h) hH rfl ?_ ?_
              rotate_left
              · (intro w hSw; (try dsimp only at hSw); (try go_split_ands); simp only [List.getElem_toArray, List.getElem_cons_zero, List.getElem_cons_succ]; go_simp; try with_reducible rfl)
              try simp (config := { failIfUnchanged := false }) only [Act.put, List.setIfInBounds_toArray, List.set_cons_zero, List.set_cons_succ, List.getElem_toArray, List.getElem_cons_zero, List.getElem_cons_succ]
              refine take_run (i := 1) (v := ?_) (by decide) (by kernel_rfl) (by kernel_rfl) (by kernel_rfl) (fun _ _ _ _ h => h) hH rfl ?_ ?_
              rotate_left
              · (intro w hSw; (try dsimp only at hSw); (try go_split_ands); simp only [List.getElem_toArray, List.getElem_cons_zero, List.getElem_cons_succ]; go_simp; try with_reducible rfl)
              try simp (config := { failIfUnchanged := false }) only [Act.put, List.setIfInBounds_toArray, List.set_cons_zero, List.set_cons_succ, List.getElem_toArray, List.getElem_cons_zero, List.getElem_cons_succ]
              refine take_run (i := 2) (v := ?_) (by decide) (by kernel_rfl) (by kernel_rfl) (by kernel_rfl) (fun _ _ _ _ h => h) hH rfl ?_ ?_
              rotate_left
              · (intro w hSw; (try dsimp only at hSw); (try go_split_ands); simp only [List.getElem_toArray, List.getElem_cons_zero, List.getElem_cons_succ]; go_simp; try with_reducible rfl)
              try simp (config := { failIfUnchanged := false }) only [Act.put, List.setIfInBounds_toArray, List.set_cons_zero, List.set_cons_succ, List.getElem_toArray, List.getElem_cons_zero, List.getElem_cons_succ]
              refine take_run (i := 3) (v := ?_) (by decide) (by kernel_rfl) (by kernel_rfl) (by kernel_rfl) (fun _ _ _ _ h => h) hH rfl ?_ ?_
              rotate_left
              · (intro w hSw; (try dsimp only at hSw); (try go_split_ands); simp only [List.getElem_toArray, List.getElem_cons_zero, List.getElem_cons_succ]; go_simp; try with_reducible rfl)
              try simp (config := { failIfUnchanged := false }) only [Act.put, List.setIfInBounds_toArray, List.set_cons_zero, List.set_cons_succ, List.getElem_toArray, List.getElem_cons_zero, List.getElem_cons_succ]
              refine take_run (i := 4) (v := ?_) (by decide) (by kernel_rfl) (by kernel_rfl) (by kernel_rfl) (fun _ _ _ _ h => h) hH rfl ?_ ?_
              rotate_left
              · (intro w hSw; (try dsimp only at hSw); (try go_split_ands); simp only [List.getElem_toArray, List.getElem_cons_zero, List.getElem_cons_succ]; go_simp; try with_reducible rfl)
              try simp (config := { failIfUnchanged := false }) only [Act.put, List.setIfInBounds_toArray, List.set_cons_zero, List.set_cons_succ, List.getElem_toArray, List.getElem_cons_zero, List.getElem_cons_succ]
              refine take_run (i := 5) (v := ?_) (by decide) (by kernel_rfl) (by kernel_rfl) (by kernel_rfl) (fun _ _ _ _ h => h) hH rfl ?_ ?_
              rotate_left
              · (intro w hSw; (try dsimp only at hSw); (try go_split_ands); simp only [List.getElem_toArray, List.getElem_cons_zero, List.getElem_cons_succ]; go_simp; try with_reducible rfl)
              try simp (config := { failIfUnchanged := false }) only [Act.put, List.setIfInBounds_toArray, List.set_cons_zero, List.set_cons_succ, List.getElem_toArray, List.getElem_cons_zero, List.getElem_cons_succ]
              refine take_run (i := 6) (v := ?_) (by decide) (by kernel_rfl) (by kernel_rfl) (by kernel_rfl) (fun _ _ _ _ h => h) hH rfl ?_ ?_
              rotate_left
              · (intro w hSw; (try dsimp only at hSw); (try go_split_ands); simp only [List.getElem_toArray, List.getElem_cons_zero, List.getElem_cons_succ]; go_simp; try with_reducible rfl)
              try simp (config := { failIfUnchanged := false }) only [Act.put, List.setIfInBounds_toArray, List.set_cons_zero, List.set_cons_succ, List.getElem_toArray, List.getElem_cons_zero, List.getElem_cons_succ]
              refine take_run (i := 7) (v := ?_) (by decide) (by kernel_rfl) (by kernel_rfl) (by kernel_rfl) (fun _ _ _ _ h => h) hH rfl ?_ ?_
              rotate_left
              · (intro w hSw; (try dsimp only at hSw); (try go_split_ands); simp only [List.getElem_toArray, List.getElem_cons_zero, List.getElem_cons_succ]; go_simp; try with_reducible rfl)
              try simp (config := { failIfUnchanged := false }) only [Act.put, List.setIfInBounds_toArray, List.set_cons_zero, List.set_cons_succ, List.getElem_toArray, List.getElem_cons_zero, List.getElem_cons_succ]
              refine take_call (i := 8) (by decide) (by kernel_rfl) (fun K hK => ?_)
              simp only [List.getElem_toArray, List.getElem_cons_zero, List.getElem_cons_succ]
              go_simp
              go_at_call 60
              refine (CE3.out _).mono ?_
              rintro e u3 ⟨rfl, hb2⟩
              rw [HD3.out]
              dsimp only
              have hbx : Below wr.heap.size wr u3 := ((Below.refl _ wr).drew).trans hb2
              have hown := Lib.hid (own_below hown.out hbx)
              have hbw := Lib.hid (bstep hbw.out hbw.out.size hbx)
              clear hb2 hbx
              refine hK.out _ _ (by exact HC1.out.below hbw.out) (fun hH => ?_)
              clear hK K
              try simp (config := { failIfUnchanged := false }) only [Act.put, List.setIfInBounds_toArray, List.set_cons_zero, List.set_cons_succ, List.getElem_toArray, List.getElem_cons_zero, List.getElem_cons_succ]
              refine take_run (i := 9) (v := ?_) (by decide) (by kernel_rfl) (by kernel_rfl) (by kernel_rfl) (fun _ _ _ _ h => h) hH rfl ?_ ?_
              rotate_left
              · (intro w hSw; (try dsimp only at hSw); (try go_split_ands); simp only [List.getElem_toArray, List.getElem_cons_zero, List.getElem_cons_succ]; go_simp; try with_reducible rfl)
              try simp (config := { failIfUnchanged := false }) only [Act.put, List.setIfInBounds_toArray, List.set_cons_zero, List.set_cons_succ, List.getElem_toArray, List.getElem_cons_zero, List.getElem_cons_succ]
              refine take_run (i := 10) (v := ?_) (by decide) (by kernel_rfl) (by kernel_rfl) (by kernel_rfl) (fun _ _ _ _ h => h) hH rfl ?_ ?_
              rotate_left
              · (intro w hSw; (try dsimp only at hSw); (try go_split_ands); simp only [List.getElem_toArray, List.getElem_cons_zero, List.getElem_cons_succ]; go_simp; try with_reducible rfl)
              try simp (config := { failIfUnchanged := false }) only [Act.put, List.setIfInBounds_toArray, List.set_cons_zero, List.set_cons_succ, List.getElem_toArray, List.getElem_cons_zero, List.getElem_cons_succ]
              refine take_run (i := 11) (v := ?_) (by decide) (by kernel_rfl) (by kernel_rfl) (by kernel_rfl) (fun _ _ _ _ h => h) hH rfl ?_ ?_
              rotate_left
              · (intro w hSw; (try dsimp only at hSw); (try go_split_ands); simp only [List.getElem_toArray, List.getElem_cons_zero, List.getElem_cons_succ]; go_simp; try with_reducible rfl)
              try simp (config := { failIfUnchanged := false }) only [Act.put, List.setIfInBounds_toArray, List.set_cons_zero, List.set_cons_succ, List.getElem_toArray, List.getElem_cons_zero, List.getElem_cons_succ]
              refine take_run (i := 12) (v := ?_) (by decide) (by kernel_rfl) (by kernel_rfl) (by kernel_rfl) (fun _ _ _ _ h => h) hH rfl ?_ ?_
              rotate_left
              · (intro w hSw; (try dsimp only at hSw); (try go_split_ands); simp only [List.getElem_toArray, List.getElem_cons_zero, List.getElem_cons_succ]; go_simp; try with_reducible rfl)
              try simp (config := { failIfUnchanged := false }) only [Act.put, List.setIfInBounds_toArray, List.set_cons_zero, List.set_cons_succ, List.getElem_toArray, List.getElem_cons_zero, List.getElem_cons_succ]
              refine take_run (i := 13) (v := ?_) (by decide) (by kernel_rfl) (by kernel_rfl) (by kernel_rfl) (fun _ _ _ _ h => h) hH rfl ?_ ?_
              rotate_left
              · (intro w hSw; (try dsimp only at hSw); (try go_split_ands); simp only [List.getElem_toArray, List.getElem_cons_zero, List.getElem_cons_succ]; go_simp; try with_reducible rfl)
              try simp (config := { failIfUnchanged := false }) only [Act.put, List.setIfInBounds_toArray, List.set_cons_zero, List.set_cons_succ, List.getElem_toArray, List.getElem_cons_zero, List.getElem_cons_succ]
              refine wpAnyH_done (by kernel_rfl) ?_ _
              go_wp2
              refine wp_region_held_drew (S := fun x => x.cell? ⟨w.heap.size + 1, 0, none⟩ = some (.slice (some ⟨b0, o0, none⟩) q0.length a) ∧ x.cell? ⟨w.heap.size + 1, 1, none⟩ = some (.slice (some ⟨b1, o1, none⟩) q0.length b) ∧ x.cell? ⟨w.heap.size + 1, 2, none⟩ = some (.slice (some ⟨b2, o2, none⟩) q0.length c) ∧ x.cell? ⟨w.heap.size + 1, 3, none⟩ = some (.slice (some ⟨b3, o3, none⟩) q0.length d) ∧ x.cell? ⟨w.heap.size, 1, none⟩ = some (.int .i64 p1) ∧ x.cell? ⟨w.heap.size, 2, none⟩ = some (.int .i64 p2) ∧ x.cell? ⟨w.heap.size, 3, none⟩ = some (.int .i64 p3) ∧ x.cell? ⟨w.heap.size, 4, none⟩ = some (.int .i64 p4) ∧ x.cell? ⟨b0, o0 + k, none⟩ = some (.int .i64 e0) ∧ x.cell? ⟨b1, o1 + k, none⟩ = some (.int .i64 e1) ∧ x.cell? ⟨b2, o2 + k, none⟩ = some (.int .i64 e2) ∧ x.cell? ⟨b3, o3 + k, none⟩ = some (.int .i64 e3)) (by kernel_rfl) (HC1.out.below hbw.out.drew) (fun hH => ?_)
              refine take_run (i := 0) (v := ?_) (by decide) (by kernel_rfl) (by kernel_rfl) (by kernel_rfl) (fun _ _ _ _ h => h) hH rfl ?_ ?_
              rotate_left
              · (intro w hSw; (try dsimp only at hSw); (try go_split_ands); simp only [List.getElem_toArray, List.getElem_cons_zero, List.getElem_cons_succ]; go_simp; try with_reducible rfl)
              try simp (config := { failIfUnchanged := false }) only [Act.put, List.setIfInBounds_toArray, List.set_cons_zero, List.set_cons_succ, List.getElem_toArray, List.getElem_cons_zero, List.getElem_cons_succ]
              refine take_run (i := 1) (v := ?_) (by decide) (by kernel_rfl) (by kernel_rfl) (by kernel_rfl) (fun _ _ _ _ h => h) hH rfl ?_ ?_
              rotate_left
              · (intro w hSw; (try dsimp only at hSw); (try go_split_ands); simp only [List.getElem_toArray, List.getElem_cons_zero, List.getElem_cons_succ]; go_simp; try with_reducible rfl)
              try simp (config := { failIfUnchanged := false }) only [Act.put, List.setIfInBounds_toArray, List.set_cons_zero, List.set_cons_succ, List.getElem_toArray, List.getElem_cons_zero, List.getElem_cons_succ]
              refine take_run (i := 2) (v := ?_) (by decide) (by kernel_rfl) (by kernel_rfl) (by kernel_rfl) (fun _ _ _ _ h => h) hH rfl ?_ ?_
              rotate_left
              · (intro w hSw; (try dsimp only at hSw); (try go_split_ands); simp only [List.getElem_toArray, List.getElem_cons_zero, List.getElem_cons_succ]; go_simp; try with_reducible rfl)
              try simp (config := { failIfUnchanged := false }) only [Act.put, List.setIfInBounds_toArray, List.set_cons_zero, List.set_cons_succ, List.getElem_toArray, List.getElem_cons_zero, List.getElem_cons_succ]
              refine take_run (i := 3) (v := ?_) (by decide) (by kernel_rfl) (by kernel_rfl) (by kernel_rfl) (fun _ _ _ _ h => h) hH rfl ?_ ?_
              rotate_left
              · (intro w hSw; (try dsimp only at hSw); (try go_split_ands); simp only [List.getElem_toArray, List.getElem_cons_zero, List.getElem_cons_succ]; go_simp; try with_reducible rfl)
              try simp (config := { failIfUnchanged := false }) only [Act.put, List.setIfInBounds_toArray, List.set_cons_zero, List.set_cons_succ, List.getElem_toArray, List.getElem_cons_zero, List.getElem_cons_succ]
              refine take_run (i := 4) (v := ?_) (by decide) (by kernel_rfl) (by kernel_rfl) (by kernel_rfl) (fun _ _ _ _ h => h) hH rfl ?_ ?_
              rotate_left
              · (intro w hSw; (try dsimp only at hSw); (try go_split_ands); simp only [List.getElem_toArray, List.getElem_cons_zero, List.getElem_cons_succ]; go_simp; try with_reducible rfl)
              try simp (config := { failIfUnchanged := false }) only [Act.put, List.setIfInBounds_toArray, List.set_cons_zero, List.set_cons_succ, List.getElem_toArray, List.getElem_cons_zero, List.getElem_cons_succ]
              refine take_run (i := 5) (v := ?_) (by decide) (by kernel_rfl) (by kernel_rfl) (by kernel_rfl) (fun _ _ _ _ h => h) hH rfl ?_ ?_
              rotate_left
              · (intro w hSw; (try dsimp only at hSw); (try go_split_ands); simp only [List.getElem_toArray, List.getElem_cons_zero, List.getElem_cons_succ]; go_simp; try with_reducible rfl)
              try simp (config := { failIfUnchanged := false }) only [Act.put, List.setIfInBounds_toArray, List.set_cons_zero, List.set_cons_succ, List.getElem_toArray, List.getElem_cons_zero, List.getElem_cons_succ]
              refine take_run (i := 6) (v := ?_) (by decide) (by kernel_rfl) (by kernel_rfl) (by kernel_rfl) (fun _ _ _ _ h => h) hH rfl ?_ ?_
              rotate_left
              · (intro w hSw; (try dsimp only at hSw); (try go_split_ands); simp only [List.getElem_toArray, List.getElem_cons_zero, List.getElem_cons_succ]; go_simp; try with_reducible rfl)
              try simp (config := { failIfUnchanged := false }) only [Act.put, List.setIfInBounds_toArray, List.set_cons_zero, List.set_cons_succ, List.getElem_toArray, List.getElem_cons_zero, List.getElem_cons_succ]
              refine take_run (i := 7) (v := ?_) (by decide) (by kernel_rfl) (by kernel_rfl) (by kernel_rfl) (fun _ _ _ _ h => h) hH rfl ?_ ?_
              rotate_left
              · (intro w hSw; (try dsimp only at hSw); (try go_split_ands); simp only [List.getElem_toArray, List.getElem_cons_zero, List.getElem_cons_succ]; go_simp; try with_reducible rfl)
              try simp (config := { failIfUnchanged := false }) only [Act.put, List.setIfInBounds_toArray, List.set_cons_zero, List.set_cons_succ, List.getElem_toArray, List.getElem_cons_zero, List.getElem_cons_succ]
              refine take_call (i := 8) (by decide) (by kernel_rfl) (fun K hK => ?_)
              simp only [List.getElem_toArray, List.getElem_cons_zero, List.getElem_cons_succ]
              go_simp
              go_at_call 60
              refine (CE4.out _).mono ?_
              rintro e u4 ⟨rfl, hb2⟩
              rw [HD4.out]
              dsimp only
              have hbx : Below u3.heap.size u3 u4 := ((Below.refl _ u3).drew).trans hb2
              have hown := Lib.hid (own_below hown.out hbx)
              have hbw := Lib.hid (bstep hbw.out hbw.out.size hbx)
              clear hb2 hbx
              refine hK.out _ _ (by exact HC1.out.below hbw.out) (fun hH => ?_)
              clear hK K
              try simp (config := { failIfUnchanged := false }) only [Act.put, List.setIfInBounds_toArray, List.set_cons_zero, List.set_cons_succ, List.getElem_toArray, List.getElem_cons_zero, List.getElem_cons_succ]
              refine take_run (i := 9) (v := ?_) (by decide) (by kernel_rfl) (by kernel_rfl) (by kernel_rfl) (fun _ _ _ _ h => h) hH rfl ?_ ?_
              rotate_left
              · (intro w hSw; (try dsimp only at hSw); (try go_split_ands); simp only [List.getElem_toArray, List.getElem_cons_zero, List.getElem_cons_succ]; go_simp; try with_reducible rfl)
              try simp (config := { failIfUnchanged := false }) only [Act.put, List.setIfInBounds_toArray, List.set_cons_zero, List.set_cons_succ, List.getElem_toArray, List.getElem_cons_zero, List.getElem_cons_succ]
              refine take_run (i := 10) (v := ?_) (by decide) (by kernel_rfl) (by kernel_rfl) (by kernel_rfl) (fun _ _ _ _ h => h) hH rfl ?_ ?_
              rotate_left
              · (intro w hSw; (try dsimp only at hSw); (try go_split_ands); simp only [List.getElem_toArray, List.getElem_cons_zero, List.getElem_cons_succ]; go_simp; try with_reducible rfl)
              try simp (config := { failIfUnchanged := false }) only [Act.put, List.setIfInBounds_toArray, List.set_cons_zero, List.set_cons_succ, List.getElem_toArray, List.getElem_cons_zero, List.getElem_cons_succ]
              refine take_run (i := 11) (v := ?_) (by decide) (by kernel_rfl) (by kernel_rfl) (by kernel_rfl) (fun _ _ _ _ h => h) hH rfl ?_ ?_
              rotate_left
              · (intro w hSw; (try dsimp only at hSw); (try go_split_ands); simp only [List.getElem_toArray, List.getElem_cons_zero, List.getElem_cons_succ]; go_simp; try with_reducible rfl)
              try simp (config := { failIfUnchanged := false }) only [Act.put, List.setIfInBounds_toArray, List.set_cons_zero, List.set_cons_succ, List.getElem_toArray, List.getElem_cons_zero, List.getElem_cons_succ]
              refine take_run (i := 12) (v := ?_) (by decide) (by kernel_rfl) (by kernel_rfl) (by kernel_rfl) (fun _ _ _ _ h => h) hH rfl ?_ ?_
              rotate_left
              · (intro w hSw; (try dsimp only at hSw); (try go_split_ands); simp only [List.getElem_toArray, List.getElem_cons_zero, List.getElem_cons_succ]; go_simp; try with_reducible rfl)
              try simp (config := { failIfUnchanged := false }) only [Act.put, List.setIfInBounds_toArray, List.set_cons_zero, List.set_cons_succ, List.getElem_toArray, List.getElem_cons_zero, List.getElem_cons_succ]
              refine take_run (i := 13) (v := ?_) (by decide) (by kernel_rfl) (by kernel_rfl) (by kernel_rfl) (fun _ _ _ _ h => h) hH rfl ?_ ?_
              rotate_left
              · (intro w hSw; (try dsimp only at hSw); (try go_split_ands); simp only [List.getElem_toArray, List.getElem_cons_zero, List.getElem_cons_succ]; go_simp; try with_reducible rfl)
              try simp (config := { failIfUnchanged := false }) only [Act.put, List.setIfInBounds_toArray, List.set_cons_zero, List.set_cons_succ, List.getElem_toArray, List.getElem_cons_zero, List.getElem_cons_succ]
              refine wpAnyH_done (by kernel_rfl) ?_ _
              go_wp2
              refine wp_region_held_drew (S := fun x => x.cell? ⟨w.heap.size + 1, 0, none⟩ = some (.slice (some ⟨b0, o0, none⟩) q0.length a) ∧ x.cell? ⟨w.heap.size + 1, 1, none⟩ = some (.slice (some ⟨b1, o1, none⟩) q0.length b) ∧ x.cell? ⟨w.heap.size + 1, 2, none⟩ = some (.slice (some ⟨b2, o2, none⟩) q0.length c) ∧ x.cell? ⟨w.heap.size + 1, 3, none⟩ = some (.slice (some ⟨b3, o3, none⟩) q0.length d) ∧ x.cell? ⟨w.heap.size, 1, none⟩ = some (.int .i64 p1) ∧ x.cell? ⟨w.heap.size, 2, none⟩ = some (.int .i64 p2) ∧ x.cell? ⟨w.heap.size, 3, none⟩ = some (.int .i64 p3) ∧ x.cell? ⟨w.heap.size, 4, none⟩ = some (.int .i64 p4) ∧ x.cell? ⟨b0, o0 + k, none⟩ = some (.int .i64 e0) ∧ x.cell? ⟨b1, o1 + k, none⟩ = some (.int .i64 e1) ∧ x.cell? ⟨b2, o2 + k, none⟩ = some (.int .i64 e2) ∧ x.cell? ⟨b3, o3 + k, none⟩ = some (.int .i64 e3)) (by kernel_rfl) (HC1.out.below hbw.out.drew) (fun hH => ?_)
              refine take_run (i := 0) (v := ?_) (by decide) (by kernel_rfl) (by kernel_rfl) (by kernel_rfl) (fun _ _ _ _ h => h) hH rfl ?_ ?_
              rotate_left
              · (intro w hSw; (try dsimp only at hSw); (try go_split_ands); simp only [List.getElem_toArray, List.getElem_cons_zero, List.getElem_cons_succ]; go_simp; try with_reducible rfl)
              try simp (config := { failIfUnchanged := false }) only [Act.put, List.setIfInBounds_toArray, List.set_cons_zero, List.set_cons_succ, List.getElem_toArray, List.getElem_cons_zero, List.getElem_cons_succ]
              refine take_run (i := 1) (v := ?_) (by decide) (by kernel_rfl) (by kernel_rfl) (by kernel_rfl) (fun _ _ _ _ h => h) hH rfl ?_ ?_
              rotate_left
              · (intro w hSw; (try dsimp only at hSw); (try go_split_ands); simp only [List.getElem_toArray, List.getElem_cons_zero, List.getElem_cons_succ]; go_simp; try with_reducible rfl)
              try simp (config := { failIfUnchanged := false }) only [Act.put, List.setIfInBounds_toArray, List.set_cons_zero, List.set_cons_succ, List.getElem_toArray, List.getElem_cons_zero, List.getElem_cons_succ]
              refine take_run (i := 2) (v := ?_) (by decide) (by kernel_rfl) (by kernel_rfl) (by kernel_rfl) (fun _ _ _ _ h => h) hH rfl ?_ ?_
              rotate_left
              · (intro w hSw; (try dsimp only at hSw); (try go_split_ands); simp only [List.getElem_toArray, List.getElem_cons_zero, List.getElem_cons_succ]; go_simp; try with_reducible rfl)
              try simp (config := { failIfUnchanged := false }) only [Act.put, List.setIfInBounds_toArray, List.set_cons_zero, List.set_cons_succ, List.getElem_toArray, List.getElem_cons_zero, List.getElem_cons_succ]
              refine take_run (i := 3) (v := ?_) (by decide) (by kernel_rfl) (by kernel_rfl) (by kernel_rfl) (fun _ _ _ _ h => h) hH rfl ?_ ?_
              rotate_left
              · (intro w hSw; (try dsimp only at hSw); (try go_split_ands); simp only [List.getElem_toArray, List.getElem_cons_zero, List.getElem_cons_succ]; go_simp; try with_reducible rfl)
              try simp (config := { failIfUnchanged := false }) only [Act.put, List.setIfInBounds_toArray, List.set_cons_zero, List.set_cons_succ, List.getElem_toArray, List.getElem_cons_zero, List.getElem_cons_succ]
              refine take_run (i := 4) (v := ?_) (by decide) (by kernel_rfl) (by kernel_rfl) (by kernel_rfl) (fun _ _ _ _ h => h) hH rfl ?_ ?_
              rotate_left
              · (intro w hSw; (try dsimp only at hSw); (try go_split_ands); simp only [List.getElem_toArray, List.getElem_cons_zero, List.getElem_cons_succ]; go_simp; try with_reducible rfl)
              try simp (config := { failIfUnchanged := false }) only [Act.put, List.setIfInBounds_toArray, List.set_cons_zero, List.set_cons_succ, List.getElem_toArray, List.getElem_cons_zero, List.getElem_cons_succ]
              refine take_run (i := 5) (v := ?_) (by decide) (by kernel_rfl) (by kernel_rfl) (by kernel_rfl) (fun _ _ _ _ h => h) hH rfl ?_ ?_
              rotate_left
              · (intro w hSw; (try dsimp only at hSw); (try go_split_ands); simp only [List.getElem_toArray, List.getElem_cons_zero, List.getElem_cons_succ]; go_simp; try with_reducible rfl)
              try simp (config := { failIfUnchanged := false }) only [Act.put, List.setIfInBounds_toArray, List.set_cons_zero, List.set_cons_succ, List.getElem_toArray, List.getElem_cons_zero, List.getElem_cons_succ]
              refine take_run (i := 6) (v := ?_) (by decide) (by kernel_rfl) (by kernel_rfl) (by kernel_rfl) (fun _ _ _ _ h => h) hH rfl ?_ ?_
              rotate_left
              · (intro w hSw; (try dsimp only at hSw); (try go_split_ands); simp only [List.getElem_toArray, List.getElem_cons_zero, List.getElem_cons_succ]; go_simp; try with_reducible rfl)
              try simp (config := { failIfUnchanged := false }) only [Act.put, List.setIfInBounds_toArray, List.set_cons_zero, List.set_cons_succ, List.getElem_toArray, List.getElem_cons_zero, List.getElem_cons_succ]
              refine take_run (i := 7) (v := ?_) (by decide) (by kernel_rfl) (by kernel_rfl) (by kernel_rfl) (fun _ _ _ _ h => h) hH rfl ?_ ?_
              rotate_left
              · (intro w hSw; (try dsimp only at hSw); (try go_split_ands); simp only [List.getElem_toArray, List.getElem_cons_zero, List.getElem_cons_succ]; go_simp; try with_reducible rfl)
              try simp (config := { failIfUnchanged := false }) only [Act.put, List.setIfInBounds_toArray, List.set_cons_zero, List.set_cons_succ, List.getElem_toArray, List.getElem_cons_zero, List.getElem_cons_succ]
              refine take_run (i := 8) (v := ?_) (by decide) (by kernel_rfl) (by kernel_rfl) (by kernel_rfl) (fun _ _ _ _ h => h) hH rfl ?_ ?_
              rotate_left
              · (intro w hSw; (try dsimp only at hSw); (try go_split_ands); simp only [List.getElem_toArray, List.getElem_cons_zero, List.getElem_cons_succ]; go_simp; try with_reducible rfl)
              try simp (config := { failIfUnchanged := false }) only [Act.put, List.setIfInBounds_toArray, List.set_cons_zero, List.set_cons_succ, List.getElem_toArray, List.getElem_cons_zero, List.getElem_cons_succ]
              refine take_run (i := 9) (v := ?_) (by decide) (by kernel_rfl) (by kernel_rfl) (by kernel_rfl) (fun _ _ _ _ h => h) hH rfl ?_ ?_
              rotate_left
              · (intro w hSw; (try dsimp only at hSw); (try go_split_ands); simp only [List.getElem_toArray, List.getElem_cons_zero, List.getElem_cons_succ]; go_simp; try with_reducible rfl)
              try simp (config := { failIfUnchanged := false }) only [Act.put, List.setIfInBounds_toArray, List.set_cons_zero, List.set_cons_succ, List.getElem_toArray, List.getElem_cons_zero, List.getElem_cons_succ]
              refine take_run (i := 10) (v := ?_) (by decide) (by kernel_rfl) (by kernel_rfl) (by kernel_rfl) (fun _ _ _ _ h => h) hH rfl ?_ ?_
              rotate_left
              · (intro w hSw; (try dsimp only at hSw); (try go_split_ands); simp only [List.getElem_toArray, List.getElem_cons_zero, List.getElem_cons_succ]; go_simp; try with_reducible rfl)
              try simp (config := { failIfUnchanged := false }) only [Act.put, List.setIfInBounds_toArray, List.set_cons_zero, List.set_cons_succ, List.getElem_toArray, List.getElem_cons_zero, List.getElem_cons_succ]
              refine take_run (i := 11) (v := ?_) (by decide) (by kernel_rfl) (by kernel_rfl) (by kernel_rfl) (fun _ _ _ _ h => h) hH rfl ?_ ?_
              rotate_left
              · (intro w hSw; (try dsimp only at hSw); (try go_split_ands); simp only [List.getElem_toArray, List.getElem_cons_zero, List.getElem_cons_succ]; go_simp; try with_reducible rfl)
              try simp (config := { failIfUnchanged := false }) only [Act.put, List.setIfInBounds_toArray, List.set_cons_zero, List.set_cons_succ, List.getElem_toArray, List.getElem_cons_zero, List.getElem_cons_succ]
              refine take_run (i := 12) (v := ?_) (by decide) (by kernel_rfl) (by kernel_rfl) (by kernel_rfl) (fun _ _ _ _ h => h) hH rfl ?_ ?_
              rotate_left
              · (intro w hSw; (try dsimp only at hSw); (try go_split_ands); simp only [List.getElem_toArray, List.getElem_cons_zero, List.getElem_cons_succ]; go_simp; try with_reducible rfl)
              try simp (config := { failIfUnchanged := false }) only [Act.put, List.setIfInBounds_toArray, List.set_cons_zero, List.set_cons_succ, List.getElem_toArray, List.getElem_cons_zero, List.getElem_cons_succ]
              refine take_run (i := 13) (v := ?_) (by decide) (by kernel_rfl) (by kernel_rfl) (by kernel_rfl) (fun _ _ _ _ h => h) hH rfl ?_ ?_
              rotate_left
              · (intro w hSw; (try dsimp only at hSw); (try go_split_ands); simp only [List.getElem_toArray, List.getElem_cons_zero, List.getElem_cons_succ]; go_simp; try with_reducible rfl)
              try simp (config := { failIfUnchanged := false }) only [Act.put, List.setIfInBounds_toArray, List.set_cons_zero, List.set_cons_succ, List.getElem_toArray, List.getElem_cons_zero, List.getElem_cons_succ]
              refine take_run (i := 14) (v := ?_) (by decide) (by kernel_rfl) (by kernel_rfl) (by kernel_rfl) (fun _ _ _ _ h => h) hH rfl ?_ ?_
              rotate_left
              · (intro w hSw; (try dsimp only at hSw); (try go_split_ands); simp only [List.getElem_toArray, List.getElem_cons_zero, List.getElem_cons_succ]; go_simp; try with_reducible rfl)
              try simp (config := { failIfUnchanged := false }) only [Act.put, List.setIfInBounds_toArray, List.set_cons_zero, List.set_cons_succ, List.getElem_toArray, List.getElem_cons_zero, List.getElem_cons_succ]
              refine take_run (i := 15) (v := ?_) (by decide) (by kernel_rfl) (by kernel_rfl) (by kernel_rfl) (fun _ _ _ _ h => h) hH rfl ?_ ?_
              rotate_left
              · (intro w hSw; (try dsimp only at hSw); (try go_split_ands); simp only [List.getElem_toArray, List.getElem_cons_zero, List.getElem_cons_succ]; go_simp; try with_reducible rfl)
              try simp (config := { failIfUnchanged := false }) only [Act.put, List.setIfInBounds_toArray, List.set_cons_zero, List.set_cons_succ, List.getElem_toArray, List.getElem_cons_zero, List.getElem_cons_succ]
              refine take_run (i := 16) (v := ?_) (by decide) (by kernel_rfl) (by kernel_rfl) (by kernel_rfl) (fun _ _ _ _ h => h) hH rfl ?_ ?_
              rotate_left
              · (intro w hSw; (try dsimp only at hSw); (try go_split_ands); simp only [List.getElem_toArray, List.getElem_cons_zero, List.getElem_cons_succ]; go_simp; try with_reducible rfl)
              try simp (config := { failIfUnchanged := false }) only [Act.put, List.setIfInBounds_toArray, List.set_cons_zero, List.set_cons_succ, List.getElem_toArray, List.getElem_cons_zero, List.getElem_cons_succ]
              refine take_run (i := 17) (v := ?_) (by decide) (by kernel_rfl) (by kernel_rfl) (by kernel_rfl) (fun _ _ _ _ h => h) hH rfl ?_ ?_
              rotate_left
              · (intro w hSw; (try dsimp only at hSw); (try go_split_ands); simp only [List.getElem_toArray, List.getElem_cons_zero, List.getElem_cons_succ]; go_simp; try with_reducible rfl)
              try simp (config := { failIfUnchanged := false }) only [Act.put, List.setIfInBounds_toArray, List.set_cons_zero, List.set_cons_succ, List.getElem_toArray, List.getElem_cons_zero, List.getElem_cons_succ]
              refine take_run (i := 18) (v := ?_) (by decide) (by kernel_rfl) (by kernel_rfl) (by kernel_rfl) (fun _ _ _ _ h => h) hH rfl ?_ ?_
              rotate_left
              · (intro w hSw; (try dsimp only at hSw); (try go_split_ands); simp only [List.getElem_toArray, List.getElem_cons_zero, List.getElem_cons_succ]; go_simp; try with_reducible rfl)
              try simp (config := { failIfUnchanged := false }) only [Act.put, List.setIfInBounds_toArray, List.set_cons_zero, List.set_cons_succ, List.getElem_toArray, List.getElem_cons_zero, List.getElem_cons_succ]
              refine take_run (i := 19) (v := ?_) (by decide) (by kernel_rfl) (by kernel_rfl) (by kernel_rfl) (fun _ _ _ _ h => h) hH rfl ?_ ?_
              rotate_left
              · (intro w hSw; (try dsimp only at hSw); (try go_split_ands); simp only [List.getElem_toArray, List.getElem_cons_zero, List.getElem_cons_succ]; go_simp; try with_reducible rfl)
              try simp (config := { failIfUnchanged := false }) only [Act.put, List.setIfInBounds_toArray, List.set_cons_zero, List.set_cons_succ, List.getElem_toArray, List.getElem_cons_zero, List.getElem_cons_succ]
              refine take_run (i := 20) (v := ?_) (by decide) (by kernel_rfl) (by kernel_rfl) (by kernel_rfl) (fun _ _ _ _ h => h) hH rfl ?_ ?_
              rotate_left
              · (intro w hSw; (try dsimp only at hSw); (try go_split_ands); simp only [List.getElem_toArray, List.getElem_cons_zero, List.getElem_cons_succ]; go_simp; try with_reducible rfl)
              try simp (config := { failIfUnchanged := false }) only [Act.put, List.setIfInBounds_toArray, List.set_cons_zero, List.set_cons_succ, List.getElem_toArray, List.getElem_cons_zero, List.getElem_cons_succ]
              refine take_run (i := 21) (v := ?_) (by decide) (by kernel_rfl) (by kernel_rfl) (by kernel_rfl) (fun _ _ _ _ h => h) hH rfl ?_ ?_
              rotate_left
              · (intro w hSw; (try dsimp only at hSw); (try go_split_ands); simp only [List.getElem_toArray, List.getElem_cons_zero, List.getElem_cons_succ]; go_simp; try with_reducible rfl)
              try simp (config := { failIfUnchanged := false }) only [Act.put, List.setIfInBounds_toArray, List.set_cons_zero, List.set_cons_succ, List.getElem_toArray, List.getElem_cons_zero, List.getElem_cons_succ]
              refine take_call (i := 22) (by decide) (by kernel_rfl) (fun K hK => ?_)
              simp only [List.getElem_toArray, List.getElem_cons_zero, List.getElem_cons_succ]
              go_simp
              have HY : Hid (Rep.int.slice.R (u4.alloc (.cells #[.int .i64 t3] 3)).drew (Lt _) [t3] [.slice (some ⟨u4.heap.size, 0, none⟩) 1 1]) := Rep.below (w := u4.alloc (.cells #[.int .i64 t3] 3)) (Blk.ints (xs := [t3]) (Blk.new u4 3 #[.int .i64 t3]) (fun y hy => by rw [List.mem_singleton.1 hy]; exact HI.out) (Nat.le_refl _) (by decide)) (Below.refl _ _).drew
              have hbx : Below u4.heap.size u4 (u4.alloc (.cells #[.int .i64 t3] 3)).drew := ((Below.refl _ u4).alloc (Nat.le_refl _) _).drew
              have hown := Lib.hid (own_below hown.out hbx)
              have hbw := Lib.hid (bstep hbw.out hbw.out.size hbx)
              clear hbx
              generalize (u4.alloc (.cells #[.int .i64 t3] 3)).drew = wz at *
              refine hK.out _ _ (by exact HC1.out.below hbw.out) (fun hH => ?_)
              clear hK K
              try simp (config := { failIfUnchanged := false }) only [Act.put, List.setIfInBounds_toArray, List.set_cons_zero, List.set_cons_succ, List.getElem_toArray, List.getElem_cons_zero, List.getElem_cons_succ]
              refine take_call (i := 23) (by decide) (by kernel_rfl) (fun K hK => ?_)
              simp only [List.getElem_toArray, List.getElem_cons_zero, List.getElem_cons_succ]
              rw [if_pos (by rfl)]
              refine oper_append_flat flat_int _ _ _ (by rfl) w1.heap.size 3 i0 (.int .i64 0) 8 Try.underlying23 hi0 hz0 hz1 hz2 rfl _ _ _ (by rfl) hown.out [t3] (by rfl) HY.out (by simp; omega) (by simp; omega) hbw.out.size ?_
              intro v7 w7 hown7 hg7
              have hbw := Lib.hid (hbw.out.grown hg7 hbw.out.size (fun g hg => (World.ownsRow.lt hown.out g hg).1))
              have hown : Hid (w7.ownsRow w1.heap.size 3 1 v7 (k + 1) (((List.range (k + 1)).map (minT (nm, p1, p2, p3, p4, ms) (q0, q1, q2, q3))).map (Value.int .i64))) := by rw [fm_int] at hown7; rw [List.range_succ, List.map_append, List.map_append, List.map_cons, List.map_nil, HM.out]; exact hown7
              clear hown7 hg7
              refine hK.out _ _ (by exact HC1.out.below hbw.out) (fun hH => ?_)
              clear hK K
              try simp (config := { failIfUnchanged := false }) only [Act.put, List.setIfInBounds_toArray, List.set_cons_zero, List.set_cons_succ, List.getElem_toArray, List.getElem_cons_zero, List.getElem_cons_succ]
              refine take_run (i := 24) (v := ?_) (by decide) (by kernel_rfl) (by kernel_rfl) (by kernel_rfl) (fun _ _ _ _ h => h) hH rfl ?_ ?_
              rotate_left
              · (intro w hSw; (try dsimp only at hSw); (try go_split_ands); simp only [List.getElem_toArray, List.getElem_cons_zero, List.getElem_cons_succ]; go_simp; try with_reducible rfl)
              try simp (config := { failIfUnchanged := false }) only [Act.put, List.setIfInBounds_toArray, List.set_cons_zero, List.set_cons_succ, List.getElem_toArray, List.getElem_cons_zero, List.getElem_cons_succ]
              refine wpAnyH_done (by kernel_rfl) ?_ _
              go_wp2
              go_roundw
              case rel => exact ⟨k + 1, by omega, by go_num, hbw.out, hown.out⟩
              case measure => simp [intOf]; omega
            · have hlt' : ¬ (k : Int) < (q0.length : Int) := by omega
              have hke : k = q0.length := by omega
              subst hke
              go_wp2
              go_ret2
              exact ⟨_, _, rfl, bstep HB2.out HB2.out.size hbw.out, by rw [if_pos HP.out]; exact ⟨rfl, _, HB2.out.size, hown.out⟩⟩
        · skip
          have h : panB (nm, p1, p2, p3, p4, ms) = false := by show (rngB p1 256 && rngB p2 256 && rngB p3 8388608 && rngB p4 8388608) = false; rw [b0, b1, b2, b3]; simp
          have HP : Hid (panB (nm, p1, p2, p3, p4, ms) = false) := h
          clear h
          have F0 : Hid (∀ w, Calls Try.prog 59 #[.int .i64 p1, .int .i64 0, .int .i64 256] w fun e w' => e = .returned (.bool true) ∧ w' = w) := fun w => by have := pnFrom_any p1 0 256 w; rwa [show (decide (0 ≤ p1) && decide (p1 ≤ 256)) = true from b0] at this
          have F1 : Hid (∀ w, Calls Try.prog 59 #[.int .i64 p2, .int .i64 0, .int .i64 256] w fun e w' => e = .returned (.bool true) ∧ w' = w) := fun w => by have := pnFrom_any p2 0 256 w; rwa [show (decide (0 ≤ p2) && decide (p2 ≤ 256)) = true from b1] at this
          have F2 : Hid (∀ w, Calls Try.prog 59 #[.int .i64 p3, .int .i64 0, .int .i64 8388608] w fun e w' => e = .returned (.bool true) ∧ w' = w) := fun w => by have := pnFrom_any p3 0 8388608 w; rwa [show (decide (0 ≤ p3) && decide (p3 ≤ 8388608)) = true from b2] at this
          have F3 : Hid (∀ w, Calls Try.prog 59 #[.int .i64 p4, .int .i64 0, .int .i64 8388608] w fun e w' => e = .returned (.bool false) ∧ w' = w) := fun w => by have := pnFrom_any p4 0 8388608 w; rwa [show (decide (0 ≤ p4) && decide (p4 ≤ 8388608)) = false from b3] at this
          clear b0 b1 b2 b3
          go_wp2_with fail
          refine (F0.out _).mono ?_
          rintro e w2 ⟨rfl, rfl⟩
          go_wp2_with fail
          refine (F1.out _).mono ?_
          rintro e w3 ⟨rfl, rfl⟩
          go_wp2_with fail
          refine (F2.out _).mono ?_
          rintro e w4 ⟨rfl, rfl⟩
          go_wp2_with fail
          refine (F3.out _).mono ?_
          rintro e w5 ⟨rfl, rfl⟩
          go_wp2
          go_ret2
          exact ⟨_, _, rfl, HB2.out, by rw [if_neg (by rw [HP.out]; decide)]; exact ⟨rfl, rfl⟩⟩
      · skip
        have h : panB (nm, p1, p2, p3, p4, ms) = false := by show (rngB p1 256 && rngB p2 256 && rngB p3 8388608 && rngB p4 8388608) = false; rw [b0, b1, b2]; simp
        have HP : Hid (panB (nm, p1, p2, p3, p4, ms) = false) := h
        clear h
        have F0 : Hid (∀ w, Calls Try.prog 59 #[.int .i64 p1, .int .i64 0, .int .i64 256] w fun e w' => e = .returned (.bool true) ∧ w' = w) := fun w => by have := pnFrom_any p1 0 256 w; rwa [show (decide (0 ≤ p1) && decide (p1 ≤ 256)) = true from b0] at this
        have F1 : Hid (∀ w, Calls Try.prog 59 #[.int .i64 p2, .int .i64 0, .int .i64 256] w fun e w' => e = .returned (.bool true) ∧ w' = w) := fun w => by have := pnFrom_any p2 0 256 w; rwa [show (decide (0 ≤ p2) && decide (p2 ≤ 256)) = true from b1] at this
        have F2 : Hid (∀ w, Calls Try.prog 59 #[.int .i64 p3, .int .i64 0, .int .i64 8388608] w fun e w' => e = .returned (.bool false) ∧ w' = w) := fun w => by have := pnFrom_any p3 0 8388608 w; rwa [show (decide (0 ≤ p3) && decide (p3 ≤ 8388608)) = false from b2] at this
        clear b0 b1 b2
        go_wp2_with fail
        refine (F0.out _).mono ?_
        rintro e w2 ⟨rfl, rfl⟩
        go_wp2_with fail
        refine (F1.out _).mono ?_
        rintro e w3 ⟨rfl, rfl⟩
        go_wp2_with fail
        refine (F2.out _).mono ?_
        rintro e w4 ⟨rfl, rfl⟩
        go_wp2
        go_ret2
        exact ⟨_, _, rfl, HB2.out, by rw [if_neg (by rw [HP.out]; decide)]; exact ⟨rfl, rfl⟩⟩
    · skip
      have h : panB (nm, p1, p2, p3, p4, ms) = false := by show (rngB p1 256 && rngB p2 256 && rngB p3 8388608 && rngB p4 8388608) = false; rw [b0, b1]; simp
      have HP : Hid (panB (nm, p1, p2, p3, p4, ms) = false) := h
      clear h
      have F0 : Hid (∀ w, Calls Try.prog 59 #[.int .i64 p1, .int .i64 0, .int .i64 256] w fun e w' => e = .returned (.bool true) ∧ w' = w) := fun w => by have := pnFrom_any p1 0 256 w; rwa [show (decide (0 ≤ p1) && decide (p1 ≤ 256)) = true from b0] at this
      have F1 : Hid (∀ w, Calls Try.prog 59 #[.int .i64 p2, .int .i64 0, .int .i64 256] w fun e w' => e = .returned (.bool false) ∧ w' = w) := fun w => by have := pnFrom_any p2 0 256 w; rwa [show (decide (0 ≤ p2) && decide (p2 ≤ 256)) = false from b1] at this
      clear b0 b1
      go_wp2_with fail
      refine (F0.out _).mono ?_
      rintro e w2 ⟨rfl, rfl⟩
      go_wp2_with fail
      refine (F1.out _).mono ?_
      rintro e w3 ⟨rfl, rfl⟩
      go_wp2
      go_ret2
      exact ⟨_, _, rfl, HB2.out, by rw [if_neg (by rw [HP.out]; decide)]; exact ⟨rfl, rfl⟩⟩
  · skip
    have h : panB (nm, p1, p2, p3, p4, ms) = false := by show (rngB p1 256 && rngB p2 256 && rngB p3 8388608 && rngB p4 8388608) = false; rw [b0]; simp
    have HP : Hid (panB (nm, p1, p2, p3, p4, ms) = false) := h
    clear h
    have F0 : Hid (∀ w, Calls Try.prog 59 #[.int .i64 p1, .int .i64 0, .int .i64 256] w fun e w' => e = .returned (.bool false) ∧ w' = w) := fun w => by have := pnFrom_any p1 0 256 w; rwa [show (decide (0 ≤ p1) && decide (p1 ≤ 256)) = false from b0] at this
    clear b0
    go_wp2_with fail
    refine (F0.out _).mono ?_
    rintro e w2 ⟨rfl, rfl⟩
    go_wp2
    go_ret2
    exact ⟨_, _, rfl, HB2.out, by rw [if_neg (by rw [HP.out]; decide)]; exact ⟨rfl, rfl⟩⟩
end Go.Proofs.Ytcnkocnajamclaa

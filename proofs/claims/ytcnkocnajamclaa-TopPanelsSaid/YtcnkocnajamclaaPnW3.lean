/- The panel line: from and CheckLine of the program at a line that is right, by walking their text. -/
import Derived.Test.YtcnkocnajamclaaPnW2
namespace Go.Proofs.Ytcnkocnajamclaa
open Go Go.RowKit
set_option linter.unusedSimpArgs false

set_option maxRecDepth 100000 in
theorem pnFrom_any (n a b : Int) (w : World) : Calls Try.prog 59 #[.int .i64 n, .int .i64 a, .int .i64 b] w fun e w' => e = .returned (.bool (decide (a ≤ n) && decide (n ≤ b))) ∧ w' = w := by
  by_cases h1 : a ≤ n
  · by_cases h2 : n ≤ b
    · go_enter Try.func59, Try.ntmps59
      go_wp2
      go_ret
      exact ⟨by simp [h1, h2], rfl⟩
    · go_enter Try.func59, Try.ntmps59
      go_wp2
      go_ret
      exact ⟨by simp [h1, h2], rfl⟩
  · go_enter Try.func59, Try.ntmps59
    go_wp2
    go_ret
    exact ⟨by simp; omega, rfl⟩
set_option maxRecDepth 100000 in
set_option maxHeartbeats 4000000 in
theorem pnLine_any (A B C D : Option Addr) (a b c d : Nat) (x : Ln) (w : World) (hx : LnAt w x A B C D a b c d) (hL : LineOk x) :
    Calls Try.prog 25 #[.agg (lnA x A B C D a b c d)] w (LinePost 0 w) := by
  have hb0 := (Below.refl w.heap.size w).alloc (Nat.le_refl _) (.cells (lnA x A B C D a b c d) 25)
  have bk := Blk.new w 25 (lnA x A B C D a b c d)
  have HX := Lib.hid (hx.below hb0)
  obtain ⟨p, q, s, t⟩ := x
  have HB := Lib.hid (And.intro hb0 bk)
  have hpl := (slice_inv hx.h0).choose_spec.choose_spec.2.1
  have l1 := hL.l1
  have l2 := hL.l2
  have l3 := hL.l3
  have lp := hL.pos
  have lm := hL.most
  have HL := Lib.hid hL
  dsimp only at hpl HB l1 l2 l3 lp lm ⊢
  clear hx hb0 bk hL
  go_enter Try.func25, Try.ntmps25
  go_wp2
  obtain ⟨W, hW⟩ : ∃ W, W = (w.alloc (.cells (lnA (p, q, s, t) A B C D a b c d) 25)).alloc (.cells #[.slice A p.length a, .slice B p.length b, .slice C p.length c, .slice D p.length d] 118) := ⟨_, rfl⟩
  have hw1 : Below w.heap.size w W := by rw [hW]; exact HB.out.1.alloc (HB.out.1).size _
  have hb1 : Blk W w.heap.size 25 #[.slice A p.length a, .slice B p.length b, .slice C p.length c, .slice D p.length d] := by
    have h := HB.out.2.alloc (.cells #[.slice A p.length a, .slice B p.length b, .slice C p.length c, .slice D p.length d] 118)
    rw [← hW] at h
    have e : lnA (p, q, s, t) A B C D a b c d = #[.slice A p.length a, .slice B p.length b, .slice C p.length c, .slice D p.length d] := by show #[Value.slice A p.length a, .slice B q.length b, .slice C s.length c, .slice D t.length d] = _; rw [l1, l2, l3]
    rwa [e] at h
  have hb2 : Blk W (w.heap.size + 1) 118 #[.slice A p.length a, .slice B p.length b, .slice C p.length c, .slice D p.length d] := by
    have := Blk.new (w.alloc (.cells (lnA (p, q, s, t) A B C D a b c d) 25)) 118 #[.slice A p.length a, .slice B p.length b, .slice C p.length c, .slice D p.length d]
    rw [show (w.alloc (.cells (lnA (p, q, s, t) A B C D a b c d) 25)).heap.size = w.heap.size + 1 from by rw [World.size_alloc]] at this
    rw [hW]
    exact this
  have hx1 : LnAt W (p, q, s, t) A B C D a b c d := by rw [hW]; exact HX.out.below ((Below.refl _ _).alloc (Nat.le_refl _) _)
  rw [← hW]
  have HW := Lib.hid hw1
  have HX : Hid (LnAt W (p, q, s, t) A B C D a b c d) := hx1
  have s0 : W.cell? ⟨w.heap.size, 0, none⟩ = some (.slice A p.length a) := hb1.cell 0
  have t0 : W.cell? ⟨w.heap.size + 1, 0, none⟩ = some (.slice A p.length a) := hb2.cell 0
  have t1 : W.cell? ⟨w.heap.size + 1, 1, none⟩ = some (.slice B p.length b) := hb2.cell 1
  have t2 : W.cell? ⟨w.heap.size + 1, 2, none⟩ = some (.slice C p.length c) := hb2.cell 2
  have t3 : W.cell? ⟨w.heap.size + 1, 3, none⟩ = some (.slice D p.length d) := hb2.cell 3
  clear hW hw1 hb1 hb2 hx1
  have z4 : ((p.length : Int) == 0) = false := ieq_f (by omega)
  have z5 : ¬ (8 : Int) < (p.length : Int) := by omega
  have i0 : ∀ w, (Instr.index 118 (.agg #[.slice A p.length a, .slice B p.length b, .slice C p.length c, .slice D p.length d]) (.int .i64 0)).run Try.prog w = .ok (.slice A p.length a) w := fun _ => by kernel_rfl
  have i1 : ∀ w, (Instr.index 118 (.agg #[.slice A p.length a, .slice B p.length b, .slice C p.length c, .slice D p.length d]) (.int .i64 1)).run Try.prog w = .ok (.slice B p.length b) w := fun _ => by kernel_rfl
  have i2 : ∀ w, (Instr.index 118 (.agg #[.slice A p.length a, .slice B p.length b, .slice C p.length c, .slice D p.length d]) (.int .i64 2)).run Try.prog w = .ok (.slice C p.length c) w := fun _ => by kernel_rfl
  have i3 : ∀ w, (Instr.index 118 (.agg #[.slice A p.length a, .slice B p.length b, .slice C p.length c, .slice D p.length d]) (.int .i64 3)).run Try.prog w = .ok (.slice D p.length d) w := fun _ => by kernel_rfl
  go_loopw [20] (fun iv wr => ∃ k : Int, 0 ≤ k ∧ k ≤ 4 ∧ iv = .int .i64 k ∧ wr = W) (fun iv _ => 4 - (intOf iv).toNat)
  case atStart => exact ⟨0, by decide, by decide, rfl, rfl⟩
  case round =>
    obtain ⟨k, hk0, hk4, rfl, rfl⟩ := hrel
    rcases (show k = 0 ∨ k = 1 ∨ k = 2 ∨ k = 3 ∨ k = 4 from by omega) with rfl | rfl | rfl | rfl | rfl
    · go_wp2
      go_roundw
      case rel => exact ⟨1, by decide, by decide, by go_num, trivial⟩
      case measure => simp [intOf]
    · go_wp2
      go_roundw
      case rel => exact ⟨2, by decide, by decide, by go_num, trivial⟩
      case measure => simp [intOf]
    · go_wp2
      go_roundw
      case rel => exact ⟨3, by decide, by decide, by go_num, trivial⟩
      case measure => simp [intOf]
    · go_wp2
      go_roundw
      case rel => exact ⟨4, by decide, by decide, by go_num, trivial⟩
      case measure => simp [intOf]
    · go_wp2
      go_loopw [39] (fun iv wx => ∃ k : Int, 0 ≤ k ∧ k ≤ 4 ∧ iv = .int .i64 k ∧ wx = wr) (fun iv _ => 4 - (intOf iv).toNat)
      case atStart => exact ⟨0, by decide, by decide, rfl, rfl⟩
      case round =>
        obtain ⟨k, hk0, hk4, rfl, rfl⟩ := hrel
        rcases (show k = 0 ∨ k = 1 ∨ k = 2 ∨ k = 3 ∨ k = 4 from by omega) with rfl | rfl | rfl | rfl | rfl
        · go_wp2
          go_loopw [44] (fun iv wy => ∃ j : Nat, j ≤ p.length ∧ iv = .int .i64 j ∧ wy = wr) (fun iv _ => p.length - (intOf iv).toNat)
          case atStart => exact ⟨0, Nat.zero_le _, rfl, rfl⟩
          case round =>
            obtain ⟨j, hj, rfl, rfl⟩ := hrel
            by_cases hlt : j < p.length
            · have hlt' : (j : Int) < (p.length : Int) := by omega
              obtain ⟨b0, o0, e0, rfl, g0, -, c0, -, -⟩ := ints_at HX.out.h0 (k := j) (by show j < p.length; omega)
              have he := HL.out.r0 e0 (List.mem_of_getElem? g0.out)
              have CF := pnFrom_any e0 0 1000
              rw [decide_eq_true he.1, decide_eq_true he.2] at CF
              have CF := Lib.hid CF
              clear he
              go_wp2_with fail
              refine (CF.out _).mono ?_
              rintro e w1 ⟨rfl, rfl⟩
              go_wp2
              go_roundw
              case rel => exact ⟨j + 1, by omega, by go_num, trivial⟩
              case measure => simp [intOf]; omega
            · have hlt' : ¬ (j : Int) < (p.length : Int) := by omega
              go_wp2
              go_roundw
              case rel => exact ⟨1, by decide, by decide, by go_num, trivial⟩
              case measure => simp [intOf]
        · go_wp2
          go_loopw [44] (fun iv wy => ∃ j : Nat, j ≤ p.length ∧ iv = .int .i64 j ∧ wy = wr) (fun iv _ => p.length - (intOf iv).toNat)
          case atStart => exact ⟨0, Nat.zero_le _, rfl, rfl⟩
          case round =>
            obtain ⟨j, hj, rfl, rfl⟩ := hrel
            by_cases hlt : j < p.length
            · have hlt' : (j : Int) < (p.length : Int) := by omega
              obtain ⟨b0, o0, e0, rfl, g0, -, c0, -, -⟩ := ints_at HX.out.h1 (k := j) (by show j < q.length; omega)
              have he := HL.out.r1 e0 (List.mem_of_getElem? g0.out)
              have CF := pnFrom_any e0 0 1000
              rw [decide_eq_true he.1, decide_eq_true he.2] at CF
              have CF := Lib.hid CF
              clear he
              go_wp2_with fail
              refine (CF.out _).mono ?_
              rintro e w1 ⟨rfl, rfl⟩
              go_wp2
              go_roundw
              case rel => exact ⟨j + 1, by omega, by go_num, trivial⟩
              case measure => simp [intOf]; omega
            · have hlt' : ¬ (j : Int) < (p.length : Int) := by omega
              go_wp2
              go_roundw
              case rel => exact ⟨2, by decide, by decide, by go_num, trivial⟩
              case measure => simp [intOf]
        · go_wp2
          go_loopw [44] (fun iv wy => ∃ j : Nat, j ≤ p.length ∧ iv = .int .i64 j ∧ wy = wr) (fun iv _ => p.length - (intOf iv).toNat)
          case atStart => exact ⟨0, Nat.zero_le _, rfl, rfl⟩
          case round =>
            obtain ⟨j, hj, rfl, rfl⟩ := hrel
            by_cases hlt : j < p.length
            · have hlt' : (j : Int) < (p.length : Int) := by omega
              obtain ⟨b0, o0, e0, rfl, g0, -, c0, -, -⟩ := ints_at HX.out.h2 (k := j) (by show j < s.length; omega)
              have he := HL.out.r2 e0 (List.mem_of_getElem? g0.out)
              have CF := pnFrom_any e0 0 1000
              rw [decide_eq_true he.1, decide_eq_true he.2] at CF
              have CF := Lib.hid CF
              clear he
              go_wp2_with fail
              refine (CF.out _).mono ?_
              rintro e w1 ⟨rfl, rfl⟩
              go_wp2
              go_roundw
              case rel => exact ⟨j + 1, by omega, by go_num, trivial⟩
              case measure => simp [intOf]; omega
            · have hlt' : ¬ (j : Int) < (p.length : Int) := by omega
              go_wp2
              go_roundw
              case rel => exact ⟨3, by decide, by decide, by go_num, trivial⟩
              case measure => simp [intOf]
        · go_wp2
          go_loopw [44] (fun iv wy => ∃ j : Nat, j ≤ p.length ∧ iv = .int .i64 j ∧ wy = wr) (fun iv _ => p.length - (intOf iv).toNat)
          case atStart => exact ⟨0, Nat.zero_le _, rfl, rfl⟩
          case round =>
            obtain ⟨j, hj, rfl, rfl⟩ := hrel
            by_cases hlt : j < p.length
            · have hlt' : (j : Int) < (p.length : Int) := by omega
              obtain ⟨b0, o0, e0, rfl, g0, -, c0, -, -⟩ := ints_at HX.out.h3 (k := j) (by show j < t.length; omega)
              have he := HL.out.r3 e0 (List.mem_of_getElem? g0.out)
              have CF := pnFrom_any e0 0 1000
              rw [decide_eq_true he.1, decide_eq_true he.2] at CF
              have CF := Lib.hid CF
              clear he
              go_wp2_with fail
              refine (CF.out _).mono ?_
              rintro e w1 ⟨rfl, rfl⟩
              go_wp2
              go_roundw
              case rel => exact ⟨j + 1, by omega, by go_num, trivial⟩
              case measure => simp [intOf]; omega
            · have hlt' : ¬ (j : Int) < (p.length : Int) := by omega
              go_wp2
              go_roundw
              case rel => exact ⟨4, by decide, by decide, by go_num, trivial⟩
              case measure => simp [intOf]
        · go_wp2
          go_ret
          exact ⟨rfl, HW.out⟩
end Go.Proofs.Ytcnkocnajamclaa

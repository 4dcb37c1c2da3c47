/- Chapter 15: the reader of material: next, by walking its text. -/
import Derived.Test.YtacbmmnipedpdaaDoorMatWA
import Derived.Deep.DeepCutAuto
namespace Go.Proofs.YtacbmmnipedpdaaDoor
open Go Go.RowKit

def lxA (x : Lx) : Array Value := #[.int .i64 x.1, .string (bA x.2.1), .int .i64 x.2.2.1, .int .i64 x.2.2.2]
/-- a reader before lexemes. -/
def RdIs (gp : Nat) (R : List Lx) (w : World) : Prop := ∃ A n c, Blk w gp 77 #[.slice A n c] ∧ Rep.lx.slice.R w (fun b => b < gp) R [.slice A n c]
theorem lxs_at {w : World} {D : Nat → Prop} {x : Lx} {R : List Lx} {A : Option Addr} {n c : Nat} (h : Rep.lx.slice.R w D (x :: R) [.slice A n c]) :
    ∃ b off, A = some ⟨b, off, none⟩ ∧ D b ∧ w.cell? ⟨b, off, none⟩ = some (.int .i64 x.1) ∧ w.cell? ⟨b, off + 1, none⟩ = some (.string (bA x.2.1)) ∧ w.cell? ⟨b, off + 2, none⟩ = some (.int .i64 x.2.2.1) ∧ w.cell? ⟨b, off + 3, none⟩ = some (.int .i64 x.2.2.2) := by
  obtain ⟨A', c', e, h1, h2, h3⟩ := h
  injection e with e _
  injection e with e1 e2 e3
  subst e1
  obtain ⟨b, off, es, rfl, hb, hr, hc⟩ := h3 0 (by simp)
  have hr' : es = lxC x := hr
  subst hr'
  refine ⟨b, off, rfl, hb, ?_, ?_, ?_, ?_⟩
  · have := hc 0 (by decide); rw [Nat.zero_mul, Nat.add_zero] at this; exact this
  · have := hc 1 (by decide); rw [Nat.zero_mul, Nat.add_zero] at this; exact this
  · have := hc 2 (by decide); rw [Nat.zero_mul, Nat.add_zero] at this; exact this
  · have := hc 3 (by decide); rw [Nat.zero_mul, Nat.add_zero] at this; exact this
theorem lx_keep {w w' : World} {gp : Nat} {R : List Lx} {v : Value} (h : Rep.lx.slice.R w (fun b => b < gp) R [v]) (hgp : gp ≤ w.heap.size) (ho : w.grownBy w' (some gp)) : Rep.lx.slice.R w' (fun b => b < gp) R [v] :=
  Rep.keep _ (fun b (hb : b < gp) => ho.block b (by omega) (fun e => by injection e with e; omega)) h
theorem fit_cases {x : Lx} {kind : Int} {t : List UInt8} : fitB x kind t = true ↔ x.1 = kind ∧ (t = [] ∨ x.2.1 = t) := by
  unfold fitB; simp
theorem lex_size : ∀ w, (Go.sizeOf 81).run Tryd.prog w = .ok 4 w := Tryd.sizeOf81
theorem bodyPost_pan {P : Program} {fn : Func} {R : Ending → World → Prop} {a : Act} {w : World} {ch : List PanicEntry} (hd : a.defers = []) (hR : R (.panicked ch) w) : bodyPost P fn R (.panic ch) a w := by
  simp [bodyPost, hd, hR]
theorem lex_info4 : (Tryd.prog.info? 81).map (·.size) = some 4 := by kernel_rfl
theorem next_close {w W : World} {gp : Nat} {R : List Lx} {s : Value} {n c : Nat} {A : Option Addr} {v0 v1 v2 v3 : Value} (hgp : gp < w.heap.size) (hG : Blk W gp 77 #[s]) (hR : Rep.lx.slice.R w (fun b => b < gp) R [.slice A n c]) (ho : w.grownBy W (some gp)) :
    RdIs gp R (((((W.setCell ⟨gp, 0, none⟩ (.slice A n c)).setCell ⟨w.heap.size, 0, none⟩ v0).setCell ⟨w.heap.size, 1, none⟩ v1).setCell ⟨w.heap.size, 2, none⟩ v2).setCell ⟨w.heap.size, 3, none⟩ v3) ∧
      w.grownBy (((((W.setCell ⟨gp, 0, none⟩ (.slice A n c)).setCell ⟨w.heap.size, 0, none⟩ v0).setCell ⟨w.heap.size, 1, none⟩ v1).setCell ⟨w.heap.size, 2, none⟩ v2).setCell ⟨w.heap.size, 3, none⟩ v3) (some gp) := by
  have hne : gp ≠ w.heap.size := by omega
  have h0 := hG.set_ 0 (.slice A n c)
  have h0 : Blk (W.setCell ⟨gp, 0, none⟩ (.slice A n c)) gp 77 #[.slice A n c] := by simpa using h0
  have h5 := (((h0.far (p := ⟨w.heap.size, 0, none⟩) hne v0).far (p := ⟨w.heap.size, 1, none⟩) hne v1).far (p := ⟨w.heap.size, 2, none⟩) hne v2).far (p := ⟨w.heap.size, 3, none⟩) hne v3
  have ho5 := only_setCell (only_setCell (only_setCell (only_setCell (only_setCell ho (p := ⟨gp, 0, none⟩) (.inl rfl) (.slice A n c)) (p := ⟨w.heap.size, 0, none⟩) (.inr (Nat.le_refl _)) v0) (p := ⟨w.heap.size, 1, none⟩) (.inr (Nat.le_refl _)) v1) (p := ⟨w.heap.size, 2, none⟩) (.inr (Nat.le_refl _)) v2) (p := ⟨w.heap.size, 3, none⟩) (.inr (Nat.le_refl _)) v3
  exact ⟨⟨A, n, c, h5, lx_keep hR (Nat.le_of_lt hgp) ho5⟩, ho5⟩
set_option maxRecDepth 100000 in
set_option maxHeartbeats 4000000 in
theorem next_ok (gp : Nat) (x : Lx) (R : List Lx) (kind : Int) (t : List UInt8) (w : World) (hR : RdIs gp (x :: R) w) (hf : fitB x kind t = true) :
    Calls Tryd.prog 48 #[.pointer (some ⟨gp, 0, none⟩), .int .i64 kind, .string (bA t)] w fun e w' => e = .returned (.agg (lxA x)) ∧ RdIs gp R w' ∧ w.grownBy w' (some gp) := by
  obtain ⟨A, n, c, hB, hl⟩ := hR
  obtain ⟨hn, hnm⟩ := slice_ln hl
  have hgp := hB.lt
  obtain ⟨b, off, rfl, hbg, k0, k1, k2, k3⟩ := lxs_at hl
  have hbg : b < gp := hbg
  obtain ⟨AV, hrun, hread⟩ := run_drop_any (P := Tryd.prog) Tryd.underlying70 lex_size b off n c 1 (by rw [hn]; simp) (by obtain ⟨_, c', e, h1, _⟩ := hl; injection e with e _; injection e with _ e2 e3; omega)
  have hrun1 : ∀ W : World, (Instr.slice 70 (.slice (some ⟨b, off, none⟩) n c) (some (.int .i64 1)) none none).run Tryd.prog W = .ok (.slice AV (n - 1) (c - 1)) W := fun W => hrun W
  have hn0 : (0 : Int) < (n : Int) := by rw [hn]; simp <;> omega
  clear hrun
  have hl2 := hread Rep.lx w _ _ rfl hl
  rw [List.drop_one, List.tail_cons] at hl2
  obtain ⟨x1, x2, x3, x4⟩ := x
  obtain ⟨hk, ht⟩ := fit_cases.1 hf
  simp only at hk ht k0 k1 k2 k3
  subst hk
  have hba := (Below.refl w.heap.size w).alloc (Nat.le_refl _) (.cells #[.int .i64 0, .string ⟨#[]⟩, .int .i64 0, .int .i64 0] 81)
  have hbb := hba.alloc hba.size (.cells (lxA (x1, x2, x3, x4)) 81)
  have g0 := ((bcell hba).1 gp 0 hgp).trans hB.c0
  have m0 := ((bcell hba).1 b off (by omega)).trans k0
  have m1 := ((bcell hba).1 b (off + 1) (by omega)).trans k1
  have m2 := ((bcell hba).1 b (off + 2) (by omega)).trans k2
  have m3 := ((bcell hba).1 b (off + 3) (by omega)).trans k3
  have BZ := (Blk.new w 81 #[.int .i64 0, .string ⟨#[]⟩, .int .i64 0, .int .i64 0]).alloc (.cells (lxA (x1, x2, x3, x4)) 81)
  have BX := Blk.new (w.alloc (.cells #[.int .i64 0, .string ⟨#[]⟩, .int .i64 0, .int .i64 0] 81)) 81 (lxA (x1, x2, x3, x4))
  have hs1 : (w.alloc (.cells #[.int .i64 0, .string ⟨#[]⟩, .int .i64 0, .int .i64 0] 81)).heap.size = w.heap.size + 1 := by simp
  rw [hs1] at BX
  have BG := hB.below hbb hgp
  have hoo : w.grownBy ((w.alloc (.cells #[.int .i64 0, .string ⟨#[]⟩, .int .i64 0, .int .i64 0] 81)).alloc (.cells (lxA (x1, x2, x3, x4)) 81)) (some gp) := only_alloc (only_alloc (only_refl _ _) _) _
  simp only [lxA] at BZ BX BG hbb hoo
  have hng : ¬ gp = w.heap.size := by omega
  have hng1 : ¬ gp = w.heap.size + 1 := by omega
  have HL := Lib.hid hl2
  clear hB hl hl2 hread hn hf k0 k1 k2 k3 hs1
  go_enter Tryd.func48, Tryd.ntmps48
  go_upto_region 2 with fail
  generalize (w.alloc (.cells #[.int .i64 0, .string ⟨#[]⟩, .int .i64 0, .int .i64 0] 81)).alloc (.cells #[.int .i64 x1, .string (bA x2), .int .i64 x3, .int .i64 x4] 81) = W at *
  have z0 : W.cell? ⟨w.heap.size, 0, none⟩ = some (.int .i64 0) := BZ.cell 0
  have z1 : W.cell? ⟨w.heap.size, 1, none⟩ = some (.string ⟨#[]⟩) := BZ.cell 1
  have z2 : W.cell? ⟨w.heap.size, 2, none⟩ = some (.int .i64 0) := BZ.cell 2
  have z3 : W.cell? ⟨w.heap.size, 3, none⟩ = some (.int .i64 0) := BZ.cell 3
  have zf0 := BZ.free 0
  have zf1 := BZ.free 1
  have zf2 := BZ.free 2
  have zf3 := BZ.free 3
  have y0 : W.cell? ⟨w.heap.size + 1, 0, none⟩ = some (.int .i64 x1) := BX.cell 0
  have y1 : W.cell? ⟨w.heap.size + 1, 1, none⟩ = some (.string (bA x2)) := BX.cell 1
  have y2 : W.cell? ⟨w.heap.size + 1, 2, none⟩ = some (.int .i64 x3) := BX.cell 2
  have y3 : W.cell? ⟨w.heap.size + 1, 3, none⟩ = some (.int .i64 x4) := BX.cell 3
  have p0 : W.cell? ⟨gp, 0, none⟩ = some (.slice (some ⟨b, off, none⟩) n c) := BG.c0
  have pf := BG.free 0
  have HBZ := Lib.hid BZ
  have HBG := Lib.hid BG
  have q1 := beq_self_int x1
  clear BZ BX BG hba g0 m0 m1 m2 m3
  have hcl := next_close (v0 := .int .i64 x1) (v1 := .string (bA x2)) (v2 := .int .i64 x3) (v3 := .int .i64 x4) hgp HBG.out HL.out hoo
  have hrs := four_set (a' := .int .i64 x1) (b' := .string (bA x2)) (c' := .int .i64 x3) (d' := .int .i64 x4) (HBZ.out.far (p := ⟨gp, 0, none⟩) (fun e => hng e.symm) (.slice AV (n - 1) (c - 1)))
  have HCL := Lib.hid hcl
  have HRS := Lib.hid hrs
  clear hcl hrs hoo hbb
  have key : t = [] ∨ (t ≠ [] ∧ x2 = t) := by
    rcases ht with h | h
    · exact .inl h
    · by_cases h0 : t = []
      · exact .inl h0
      · exact .inr ⟨h0, h⟩
  clear ht
  rcases key with rfl | ⟨htn, rfl⟩
  · go_wp2
    exact bodyPost_ret (results_cell_row (p := 6) (ty := 81) rfl _ _ w.heap.size 81 (lxA (x1, x2, x3, x4)) (0, 0) _ rfl HRS.out Tryd.underlying81 rfl lex_info4) rfl ⟨rfl, HCL.out⟩
  · have q2 : (x2 == []) = false := by rw [str_eq]; exact decide_eq_false htn
    have q3 : (x2 == x2) = true := by simp
    clear htn
    go_wp2
    exact bodyPost_ret (results_cell_row (p := 6) (ty := 81) rfl _ _ w.heap.size 81 (lxA (x1, x2, x3, x4)) (0, 0) _ rfl HRS.out Tryd.underlying81 rfl lex_info4) rfl ⟨rfl, HCL.out⟩
set_option maxRecDepth 100000 in
set_option maxHeartbeats 4000000 in
theorem next_bad (gp : Nat) (x : Lx) (R : List Lx) (kind : Int) (t : List UInt8) (w : World) (hR : RdIs gp (x :: R) w) (hf : fitB x kind t = false) :
    Calls Tryd.prog 48 #[.pointer (some ⟨gp, 0, none⟩), .int .i64 kind, .string (bA t)] w fun e w' => e = .panicked [{ v := .iface 73 (.int .i64 x.2.2.2), recovered := false }] ∧ w.grownBy w' (some gp) := by
  obtain ⟨A, n, c, hB, hl⟩ := hR
  obtain ⟨hn, hnm⟩ := slice_ln hl
  have hgp := hB.lt
  obtain ⟨b, off, rfl, hbg, k0, k1, k2, k3⟩ := lxs_at hl
  have hbg : b < gp := hbg
  obtain ⟨AV, hrun, hread⟩ := run_drop_any (P := Tryd.prog) Tryd.underlying70 lex_size b off n c 1 (by rw [hn]; simp) (by obtain ⟨_, c', e, h1, _⟩ := hl; injection e with e _; injection e with _ e2 e3; omega)
  have hrun1 : ∀ W : World, (Instr.slice 70 (.slice (some ⟨b, off, none⟩) n c) (some (.int .i64 1)) none none).run Tryd.prog W = .ok (.slice AV (n - 1) (c - 1)) W := fun W => hrun W
  have hn0 : (0 : Int) < (n : Int) := by rw [hn]; simp <;> omega
  clear hrun
  have hl2 := hread Rep.lx w _ _ rfl hl
  rw [List.drop_one, List.tail_cons] at hl2
  obtain ⟨x1, x2, x3, x4⟩ := x
  have key : ¬ x1 = kind ∨ (x1 = kind ∧ t ≠ [] ∧ ¬ x2 = t) := by
    have h1 := mt fit_cases.2 (by rw [hf]; decide)
    by_cases h0 : x1 = kind
    · exact .inr ⟨h0, fun h => h1 ⟨h0, .inl h⟩, fun h => h1 ⟨h0, .inr h⟩⟩
    · exact .inl h0
  simp only at k0 k1 k2 k3
  have hba := (Below.refl w.heap.size w).alloc (Nat.le_refl _) (.cells #[.int .i64 0, .string ⟨#[]⟩, .int .i64 0, .int .i64 0] 81)
  have hbb := hba.alloc hba.size (.cells (lxA (x1, x2, x3, x4)) 81)
  have g0 := ((bcell hba).1 gp 0 hgp).trans hB.c0
  have m0 := ((bcell hba).1 b off (by omega)).trans k0
  have m1 := ((bcell hba).1 b (off + 1) (by omega)).trans k1
  have m2 := ((bcell hba).1 b (off + 2) (by omega)).trans k2
  have m3 := ((bcell hba).1 b (off + 3) (by omega)).trans k3
  have BZ := (Blk.new w 81 #[.int .i64 0, .string ⟨#[]⟩, .int .i64 0, .int .i64 0]).alloc (.cells (lxA (x1, x2, x3, x4)) 81)
  have BX := Blk.new (w.alloc (.cells #[.int .i64 0, .string ⟨#[]⟩, .int .i64 0, .int .i64 0] 81)) 81 (lxA (x1, x2, x3, x4))
  have hs1 : (w.alloc (.cells #[.int .i64 0, .string ⟨#[]⟩, .int .i64 0, .int .i64 0] 81)).heap.size = w.heap.size + 1 := by simp
  rw [hs1] at BX
  have BG := hB.below hbb hgp
  have hoo : w.grownBy ((w.alloc (.cells #[.int .i64 0, .string ⟨#[]⟩, .int .i64 0, .int .i64 0] 81)).alloc (.cells (lxA (x1, x2, x3, x4)) 81)) (some gp) := only_alloc (only_alloc (only_refl _ _) _) _
  simp only [lxA] at BZ BX BG hbb hoo
  have hng : ¬ gp = w.heap.size := by omega
  have hng1 : ¬ gp = w.heap.size + 1 := by omega
  have HL := Lib.hid hl2
  clear hB hl hl2 hread hn hf k0 k1 k2 k3 hs1
  go_enter Tryd.func48, Tryd.ntmps48
  go_upto_region 2 with fail
  generalize (w.alloc (.cells #[.int .i64 0, .string ⟨#[]⟩, .int .i64 0, .int .i64 0] 81)).alloc (.cells #[.int .i64 x1, .string (bA x2), .int .i64 x3, .int .i64 x4] 81) = W at *
  have z0 : W.cell? ⟨w.heap.size, 0, none⟩ = some (.int .i64 0) := BZ.cell 0
  have z1 : W.cell? ⟨w.heap.size, 1, none⟩ = some (.string ⟨#[]⟩) := BZ.cell 1
  have z2 : W.cell? ⟨w.heap.size, 2, none⟩ = some (.int .i64 0) := BZ.cell 2
  have z3 : W.cell? ⟨w.heap.size, 3, none⟩ = some (.int .i64 0) := BZ.cell 3
  have zf0 := BZ.free 0
  have zf1 := BZ.free 1
  have zf2 := BZ.free 2
  have zf3 := BZ.free 3
  have y0 : W.cell? ⟨w.heap.size + 1, 0, none⟩ = some (.int .i64 x1) := BX.cell 0
  have y1 : W.cell? ⟨w.heap.size + 1, 1, none⟩ = some (.string (bA x2)) := BX.cell 1
  have y2 : W.cell? ⟨w.heap.size + 1, 2, none⟩ = some (.int .i64 x3) := BX.cell 2
  have y3 : W.cell? ⟨w.heap.size + 1, 3, none⟩ = some (.int .i64 x4) := BX.cell 3
  have p0 : W.cell? ⟨gp, 0, none⟩ = some (.slice (some ⟨b, off, none⟩) n c) := BG.c0
  have pf := BG.free 0
  have HBZ := Lib.hid BZ
  have HBG := Lib.hid BG
  have q1 := beq_self_int x1
  clear BZ BX BG hba g0 m0 m1 m2 m3
  have HOO := Lib.hid hoo
  clear hbb hoo
  rcases key with hne | ⟨rfl, htn, hxt⟩
  · have q0 : (x1 != kind) = true := bne_iff_ne.2 hne
    clear hne
    go_wp2
    exact bodyPost_pan rfl ⟨rfl, HOO.out⟩
  · have q2 : (t == []) = false := by rw [str_eq]; exact decide_eq_false htn
    have q3 : (x2 == t) = false := by rw [str_eq]; exact decide_eq_false hxt
    clear htn hxt
    go_wp2
    exact bodyPost_pan rfl ⟨rfl, HOO.out⟩
end Go.Proofs.YtacbmmnipedpdaaDoor

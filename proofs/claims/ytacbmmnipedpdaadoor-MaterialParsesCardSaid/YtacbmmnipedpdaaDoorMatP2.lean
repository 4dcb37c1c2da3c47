/- Chapter 15: the reader of material: begins, number, section and grade, by walking their text. -/
import Derived.Test.YtacbmmnipedpdaaDoorMatP1
namespace Go.Proofs.YtacbmmnipedpdaaDoor
open Go Go.RowKit

theorem onlyT {a w w1 : World} {g : Nat} (h : a.grownBy w (some g)) (h1 : w.grownBy w1 (some g)) : a.grownBy w1 (some g) :=
  ⟨h1.os.trans h.os, h1.tape.trans h.tape, h1.output.trans h.output, Nat.le_trans h.size h1.size, fun i hi hn => (h1.block i (Nat.lt_of_lt_of_le hi h.size) hn).trans (h.block i hi hn)⟩
/-- the last lexeme, and no other, is an end. -/
def Ends15 (L : List Lx) : Prop := ∀ k, k < L.length → ((lxN L k).1 = 0 ↔ k + 1 = L.length)
theorem drop_lx {L : List Lx} {k : Nat} (hk : k < L.length) : L.drop k = lxN L k :: L.drop (k + 1) := by
  rw [List.drop_eq_getElem_cons hk]
  congr 1
  unfold lxN
  rw [List.getD_eq_getElem?_getD, List.getElem?_eq_getElem hk]; rfl
def misV (L : List Lx) (k : Nat) : PanicEntry := { v := .iface 73 (.int .i64 (lxN L k).2.2.2), recovered := false }
def Step15 (gp : Nat) (L : List Lx) (r : Rd) (v : Value) (w : World) (e : Ending) (w' : World) : Prop :=
  w.grownBy w' (some gp) ∧ ((r.2 = false ∧ r.1 < L.length ∧ e = .returned v ∧ RdIs gp (L.drop r.1) w') ∨ (r.2 = true ∧ e = .panicked [misV L r.1]))
theorem take_bad (L : List Lx) (k : Nat) (kd : Int) (t : List UInt8) : takeR L (k, true) kd t = ((0, [], 0, 0), (k, true)) := by unfold takeR; simp
theorem take_yes {L : List Lx} {k : Nat} {kd : Int} {t : List UInt8} (h : fitB (lxN L k) kd t = true) : takeR L (k, false) kd t = (lxN L k, (k + 1, false)) := by unfold takeR; simp [h]
theorem take_no {L : List Lx} {k : Nat} {kd : Int} {t : List UInt8} (h : fitB (lxN L k) kd t = false) : takeR L (k, false) kd t = ((0, [], 0, 0), (k, true)) := by unfold takeR; simp [h]
theorem num_bad (L : List Lx) (k : Nat) (t : List UInt8) : numR L (k, true) t = (0, (k, true)) := by unfold numR; simp only [take_bad]
theorem fit_next {L : List Lx} (hE : Ends15 L) {k : Nat} (hk : k < L.length) {kd : Int} {t : List UInt8} (h0 : kd ≠ 0) (h : fitB (lxN L k) kd t = true) : k + 1 < L.length := by
  have h1 := (fit_cases.1 h).1
  have h2 := (hE k hk).2
  by_cases h3 : k + 1 = L.length
  · rw [h2 h3] at h1; exact absurd h1.symm h0
  · omega
theorem next_at (gp : Nat) (L : List Lx) (hE : Ends15 L) (k : Nat) (hk : k < L.length) (kd : Int) (h0 : kd ≠ 0) (t : List UInt8) (w : World) (hR : RdIs gp (L.drop k) w) :
    Calls Tryd.prog 48 #[.pointer (some ⟨gp, 0, none⟩), .int .i64 kd, .string (bA t)] w (Step15 gp L (takeR L (k, false) kd t).2 (.agg (lxA (takeR L (k, false) kd t).1)) w) := by
  rw [drop_lx hk] at hR
  cases hf : fitB (lxN L k) kd t
  · rw [take_no hf]
    exact (next_bad gp _ _ kd t w hR hf).mono fun e w' ⟨h1, h2⟩ => ⟨h2, .inr ⟨rfl, h1⟩⟩
  · rw [take_yes hf]
    exact (next_ok gp _ _ kd t w hR hf).mono fun e w' ⟨h1, h2, h3⟩ => ⟨h3, .inl ⟨rfl, fit_next hE hk h0 hf, h1, h2⟩⟩
theorem next_end (gp : Nat) (L : List Lx) (k : Nat) (hk : k < L.length) (w : World) (hR : RdIs gp (L.drop k) w) :
    Calls Tryd.prog 48 #[.pointer (some ⟨gp, 0, none⟩), .int .i64 0, .string (bA [])] w (fun e w' => w.grownBy w' (some gp) ∧ ((fitB (lxN L k) 0 [] = true ∧ e = .returned (.agg (lxA (lxN L k)))) ∨ (fitB (lxN L k) 0 [] = false ∧ e = .panicked [misV L k]))) := by
  rw [drop_lx hk] at hR
  cases hf : fitB (lxN L k) 0 []
  · exact (next_bad gp _ _ 0 [] w hR hf).mono fun e w' ⟨h1, h2⟩ => ⟨h2, .inr ⟨rfl, h1⟩⟩
  · exact (next_ok gp _ _ 0 [] w hR hf).mono fun e w' ⟨h1, h2, h3⟩ => ⟨h3, .inl ⟨rfl, h1⟩⟩
set_option maxHeartbeats 1000000 in
theorem begins_at (gp : Nat) (L : List Lx) (k : Nat) (hk : k < L.length) (t : List UInt8) (ht : t ≠ []) (w : World) (hR : RdIs gp (L.drop k) w) :
    Calls Tryd.prog 45 #[.pointer (some ⟨gp, 0, none⟩), .string (bA t)] w (fun e w' => e = .returned (.bool (fitB (lxN L k) 1 t)) ∧ w' = w) := by
  rw [drop_lx hk] at hR
  obtain ⟨r, hr⟩ : ∃ r, r = fitB (lxN L k) 1 t := ⟨_, rfl⟩
  rw [← hr]
  generalize lxN L k = x at *
  obtain ⟨x1, x2, x3, x4⟩ := x
  have HR : Hid (r = (decide (x1 = 1) && decide (x2 = t))) := by show r = _; rw [hr]; unfold fitB; simp [ht]
  obtain ⟨A, n, c, hB, hl⟩ := hR
  obtain ⟨hn, hnm⟩ := slice_ln hl
  obtain ⟨b, off, rfl, hbg, k0, k1, k2, k3⟩ := lxs_at hl
  have hn0 : (0 : Int) < (n : Int) := by rw [hn]; simp <;> omega
  have p0 := hB.c0
  simp only at k0 k1
  clear hB hl hn hr ht k2 k3
  by_cases h1 : x1 = 1
  · subst h1
    have e1 : r = (x2 == t) := by rw [HR.out, str_eq]; simp
    have HE := Lib.hid e1
    clear HR e1
    go_enter Tryd.func45, Tryd.ntmps45
    go_wp2
    go_ret
    exact ⟨ret_bool (by rw [HE.out]), rfl⟩
  · have e1 : r = false := by rw [HR.out, decide_eq_false h1]; rfl
    have q0 : (x1 == 1) = false := ieq_f h1
    subst e1
    clear HR h1
    go_enter Tryd.func45, Tryd.ntmps45
    go_wp2
    go_ret
    exact ⟨rfl, rfl⟩
theorem lex_field1 (a : Int) (b : ByteArray) (c d : Int) (w : World) : (Instr.field 81 (.agg #[.int .i64 a, .string b, .int .i64 c, .int .i64 d]) 1).run Tryd.prog w = .ok (.string b) w := by
  simp [Instr.field, asAgg, part, go_sem, Tryd.isAgg9]
theorem lex_field2 (a : Int) (b : ByteArray) (c d : Int) (w : World) : (Instr.field 81 (.agg #[.int .i64 a, .string b, .int .i64 c, .int .i64 d]) 2).run Tryd.prog w = .ok (.int .i64 c) w := by
  simp [Instr.field, asAgg, part, go_sem, Tryd.isAgg3]
theorem lexA_text (x : Lx) : lxA x = #[.int .i64 x.1, .string (bA x.2.1), .int .i64 x.2.2.1, .int .i64 x.2.2.2] := rfl
set_option maxRecDepth 100000 in
set_option maxHeartbeats 2000000 in
theorem number_at (gp : Nat) (L : List Lx) (hE : Ends15 L) (k : Nat) (hk : k < L.length) (t : List UInt8) (w : World) (hR : RdIs gp (L.drop k) w) :
    Calls Tryd.prog 64 #[.pointer (some ⟨gp, 0, none⟩), .string (bA t)] w (Step15 gp L (numR L (k, false) t).2 (.int .i64 (numR L (k, false) t).1) w) := by
  have C1 := Lib.hid (next_at gp L hE k hk 1 (by decide) t w hR)
  obtain ⟨q, hq⟩ : ∃ q, q = numR L (k, false) t := ⟨_, rfl⟩
  have HQ : Hid (q = ((takeR L (takeR L (k, false) 1 t).2 2 []).1.2.2.1, (takeR L (takeR L (k, false) 1 t).2 2 []).2)) := hq
  rw [← hq]
  have fl2 := lex_field2
  clear hq hR
  generalize takeR L (k, false) 1 t = r1 at *
  obtain ⟨x, k1, b1⟩ := r1
  go_enter Tryd.func64, Tryd.ntmps64
  go_wp2_with fail
  refine C1.out.mono ?_
  rintro e w1 ⟨ho, ⟨h2, h1, rfl, hR1⟩ | ⟨h2, rfl⟩⟩
  · have h2 : b1 = false := h2
    have h1 : k1 < L.length := h1
    subst h2
    have C2 := Lib.hid (next_at gp L hE k1 h1 2 (by decide) [] w1 hR1)
    generalize takeR L (k1, false) 2 [] = r2 at *
    obtain ⟨y, k2, b2⟩ := r2
    have HQ2 : Hid (q = (y.2.2.1, (k2, b2))) := HQ.out
    clear HQ C1 hR1
    go_wp2_with fail
    refine C2.out.mono ?_
    rintro e w2 ⟨ho2, hres⟩
    have ho3 : w.grownBy w2 (some gp) := onlyT ho ho2
    rcases hres with ⟨h2, h3, rfl, hR2⟩ | ⟨h2, rfl⟩
    · have h2 : b2 = false := h2
      have e1 : q = (y.2.2.1, (k2, false)) := by rw [HQ2.out, h2]
      subst e1
      clear HQ2 C2
      rw [lexA_text]
      go_wp2
      go_ret
      exact ⟨ho3, .inl ⟨rfl, h3, rfl, hR2⟩⟩
    · have h2 : b2 = true := h2
      have e1 : q = (y.2.2.1, (k2, true)) := by rw [HQ2.out, h2]
      subst e1
      clear HQ2 C2
      go_wp2
      exact bodyPost_pan rfl ⟨ho3, .inr ⟨rfl, rfl⟩⟩
  · have h2 : b1 = true := h2
    subst h2
    have e1 : q = (0, (k1, true)) := by rw [HQ.out]; simp only [take_bad]
    subst e1
    clear HQ C1
    go_wp2
    exact bodyPost_pan rfl ⟨ho, .inr ⟨rfl, rfl⟩⟩
/-! section -/
theorem sectR_bad1 {L : List Lx} {k k1 : Nat} {x : Lx} (h : takeR L (k, false) 1 [] = (x, (k1, true))) : (sectR L (k, false)).2 = (k1, true) := by
  unfold sectR
  simp only [h, num_bad, take_bad]
theorem sectR_bad2 {L : List Lx} {k k1 k2 : Nat} {x : Lx} {n : Int} (h : takeR L (k, false) 1 [] = (x, (k1, false))) (h2 : numR L (k1, false) tArea = (n, (k2, true))) : (sectR L (k, false)).2 = (k2, true) := by
  unfold sectR
  simp only [h, h2, num_bad, take_bad]
theorem sectR_bad3 {L : List Lx} {k k1 k2 k3 : Nat} {x : Lx} {n n2 : Int} (h : takeR L (k, false) 1 [] = (x, (k1, false))) (h2 : numR L (k1, false) tArea = (n, (k2, false))) (h3 : numR L (k2, false) tHeight = (n2, (k3, true))) : (sectR L (k, false)).2 = (k3, true) := by
  unfold sectR
  simp only [h, h2, h3, num_bad, take_bad]
theorem sectR_bad4 {L : List Lx} {k k1 k2 k3 k4 : Nat} {x : Lx} {n n2 n3 : Int} (h : takeR L (k, false) 1 [] = (x, (k1, false))) (h2 : numR L (k1, false) tArea = (n, (k2, false))) (h3 : numR L (k2, false) tHeight = (n2, (k3, false))) (h4 : numR L (k3, false) tStock = (n3, (k4, true))) : (sectR L (k, false)).2 = (k4, true) := by
  unfold sectR
  simp only [h, h2, h3, h4, take_bad]
theorem sectR_all {L : List Lx} {k k1 k2 k3 k4 : Nat} {x : Lx} {n n2 n3 : Int} (h : takeR L (k, false) 1 [] = (x, (k1, false))) (h2 : numR L (k1, false) tArea = (n, (k2, false))) (h3 : numR L (k2, false) tHeight = (n2, (k3, false))) (h4 : numR L (k3, false) tStock = (n3, (k4, false))) : sectR L (k, false) = ((x.2.1, n, n2, n3), (takeR L (k4, false) 4 [59]).2) := by
  unfold sectR
  simp only [h, h2, h3, h4]
/-- where a record is being read: its own block, and the reader. -/
structure RecSt (gp g : Nat) (ty : TypeId) (L : List Lx) (w : World) (k : Nat) (cs : Array Value) (W : World) : Prop where
  blk : Blk W g ty cs
  own : w.grownBy W (some gp)
  rd : RdIs gp (L.drop k) W
  lt : k < L.length
  gl : gp < g
  ge : w.heap.size ≤ g
theorem RecSt.call {gp g : Nat} {ty : TypeId} {L : List Lx} {w W W' : World} {k k' : Nat} {cs : Array Value} (h : RecSt gp g ty L w k cs W) (ho : W.grownBy W' (some gp)) (hR : RdIs gp (L.drop k') W') (hk : k' < L.length) : RecSt gp g ty L w k' cs W' :=
  ⟨h.blk.grown ho (fun e => by have := h.gl; injection e with e; omega), onlyT h.own ho, hR, hk, h.gl, h.ge⟩
theorem rd_set {gp g : Nat} {R : List Lx} {w : World} (h : RdIs gp R w) (hg : gp < g) (i : Nat) (u : Value) : RdIs gp R (w.setCell ⟨g, i, none⟩ u) := by
  obtain ⟨A, n, c, h1, h2⟩ := h
  exact ⟨A, n, c, h1.far (p := ⟨g, i, none⟩) (by show gp ≠ g; omega) u, Rep.keep _ (fun b (hb : b < gp) => Below.heap_setCell w ⟨g, i, none⟩ u b (by show b ≠ g; omega)) h2⟩
theorem RecSt.set {gp g : Nat} {ty : TypeId} {L : List Lx} {w W : World} {k : Nat} {cs : Array Value} (h : RecSt gp g ty L w k cs W) (i : Nat) (u : Value) : RecSt gp g ty L w k (cs.setIfInBounds i u) (W.setCell ⟨g, i, none⟩ u) :=
  ⟨h.blk.set_ i u, only_setCell h.own (p := ⟨g, i, none⟩) (.inr h.ge) u, rd_set h.rd h.gl i u, h.lt, h.gl, h.ge⟩
set_option maxRecDepth 100000 in
set_option maxHeartbeats 4000000 in
/-- section, at its word: the place behind it is k. -/
theorem sect_at (gp : Nat) (L : List Lx) (hE : Ends15 L) (k : Nat) (hk : k < L.length) (hw : fitB (lxN L k) 1 tSection = true) (w : World) (hR : RdIs gp (L.drop k) w) :
    Calls Tryd.prog 47 #[.pointer (some ⟨gp, 0, none⟩)] w (Step15 gp L (sectR L (k + 1, false)).2 (.agg (scC (sectR L (k + 1, false)).1)) w) := by
  have hgp : gp < w.heap.size := by obtain ⟨A, n, c, h, -⟩ := hR; exact h.lt
  have st0 : RecSt gp w.heap.size 36 L w k #[.string ⟨#[]⟩, .int .i64 0, .int .i64 0, .int .i64 0] (w.alloc (.cells #[.string ⟨#[]⟩, .int .i64 0, .int .i64 0, .int .i64 0] 36)) := by
    obtain ⟨A, n, c, h, h2⟩ := hR
    exact ⟨Blk.new w _ _, only_alloc (only_refl _ _) _, ⟨A, n, c, h.alloc _, lx_keep h2 (Nat.le_of_lt hgp) (only_alloc (only_refl _ _) _)⟩, hk, hgp, Nat.le_refl _⟩
  have C1 := Lib.hid (next_at gp L hE k hk 1 (by decide) tSection _ st0.rd)
  rw [take_yes hw] at C1
  obtain ⟨Q, hQ⟩ : ∃ Q, Q = sectR L (k + 1, false) := ⟨_, rfl⟩
  have HQ := Lib.hid hQ
  rw [← hQ]
  have HST := Lib.hid st0
  have fl1 := lex_field1
  clear hQ hR st0 hgp
  go_enter Tryd.func47, Tryd.ntmps47
  go_wp2_with fail
  generalize w.alloc (.cells #[.string ⟨#[]⟩, .int .i64 0, .int .i64 0, .int .i64 0] 36) = W at *
  refine C1.out.mono ?_
  rintro e w1 ⟨ho1, ⟨-, h1, rfl, hR1⟩ | ⟨h2, -⟩⟩
  · have st1 := HST.out.call ho1 hR1 h1
    have C2 := Lib.hid (next_at gp L hE (k + 1) h1 1 (by decide) [] w1 hR1)
    have HST1 := Lib.hid st1
    generalize hr : takeR L (k + 1, false) 1 [] = r at *
    obtain ⟨x, k1, b1⟩ := r
    have HX := Lib.hid hr
    have d0 := st1.blk.cell 0
    have f0 := st1.blk.free 0
    clear C1 HST st1 ho1 hR1 h1 hr
    simp only [List.getElem?_toArray, List.getElem?_cons_zero] at d0
    go_wp2_with fail
    refine C2.out.mono ?_
    rintro e w2 ⟨ho2, ⟨h3, h4, rfl, hR2⟩ | ⟨h3, rfl⟩⟩
    · have h3 : b1 = false := h3
      have h4 : k1 < L.length := h4
      subst h3
      have st2 := HST1.out.call ho2 hR2 h4
      have d0 : w2.cell? ⟨w.heap.size, 0, none⟩ = some (.string ⟨#[]⟩) := st2.blk.cell 0
      have f0 := st2.blk.free 0
      have st3 := st2.set 0 (.string (bA x.2.1))
      have C3 := Lib.hid (number_at gp L hE k1 h4 tArea _ st3.rd)
      generalize hr : numR L (k1, false) tArea = r at *
      obtain ⟨n1, k2, b2⟩ := r
      have HN1 := Lib.hid hr
      have HST3 := Lib.hid st3
      clear C2 HST1 st2 ho2 hR2 h4 hr st3
      rw [lexA_text]
      go_wp2_with fail
      generalize w2.setCell ⟨w.heap.size, 0, none⟩ (.string (bA x.2.1)) = W2 at *
      refine C3.out.mono ?_
      rintro e w3 ⟨ho3, ⟨h3, h4, rfl, hR3⟩ | ⟨h3, rfl⟩⟩
      · have h3 : b2 = false := h3
        have h4 : k2 < L.length := h4
        subst h3
        have st4 := HST3.out.call ho3 hR3 h4
        have d1 : w3.cell? ⟨w.heap.size, 1, none⟩ = some (.int .i64 0) := st4.blk.cell 1
        have f1 := st4.blk.free 1
        have st5 := st4.set 1 (.int .i64 n1)
        have C4 := Lib.hid (number_at gp L hE k2 h4 tHeight _ st5.rd)
        generalize hr : numR L (k2, false) tHeight = r at *
        obtain ⟨n2, k3, b3⟩ := r
        have HN2 := Lib.hid hr
        have HST5 := Lib.hid st5
        clear C3 HST3 st4 ho3 hR3 h4 hr st5 d0 f0
        go_wp2_with fail
        generalize w3.setCell ⟨w.heap.size, 1, none⟩ (.int .i64 n1) = W3 at *
        refine C4.out.mono ?_
        rintro e w4 ⟨ho4, ⟨h3, h4, rfl, hR4⟩ | ⟨h3, rfl⟩⟩
        · have h3 : b3 = false := h3
          have h4 : k3 < L.length := h4
          subst h3
          have st6 := HST5.out.call ho4 hR4 h4
          have d2 : w4.cell? ⟨w.heap.size, 2, none⟩ = some (.int .i64 0) := st6.blk.cell 2
          have f2 := st6.blk.free 2
          have st7 := st6.set 2 (.int .i64 n2)
          have C5 := Lib.hid (number_at gp L hE k3 h4 tStock _ st7.rd)
          generalize hr : numR L (k3, false) tStock = r at *
          obtain ⟨n3, k4, b4⟩ := r
          have HN3 := Lib.hid hr
          have HST7 := Lib.hid st7
          clear C4 HST5 st6 ho4 hR4 h4 hr st7 d1 f1
          go_wp2_with fail
          generalize w4.setCell ⟨w.heap.size, 2, none⟩ (.int .i64 n2) = W4 at *
          refine C5.out.mono ?_
          rintro e w5 ⟨ho5, ⟨h3, h4, rfl, hR5⟩ | ⟨h3, rfl⟩⟩
          · have h3 : b4 = false := h3
            have h4 : k4 < L.length := h4
            subst h3
            have st8 := HST7.out.call ho5 hR5 h4
            have d3 : w5.cell? ⟨w.heap.size, 3, none⟩ = some (.int .i64 0) := st8.blk.cell 3
            have f3 := st8.blk.free 3
            have st9 := st8.set 3 (.int .i64 n3)
            have C6 := Lib.hid (next_at gp L hE k4 h4 4 (by decide) [59] _ st9.rd)
            have e1 : Q = ((x.2.1, n1, n2, n3), (takeR L (k4, false) 4 [59]).2) := by rw [HQ.out]; exact sectR_all HX.out HN1.out HN2.out HN3.out
            subst e1
            generalize hr : takeR L (k4, false) 4 [59] = r at *
            obtain ⟨y, k5, b5⟩ := r
            have HST9 := Lib.hid st9
            clear C5 HST7 st8 ho5 hR5 h4 hr st9 d2 f2 HQ
            go_wp2_with fail
            generalize w5.setCell ⟨w.heap.size, 3, none⟩ (.int .i64 n3) = W5 at *
            refine C6.out.mono ?_
            rintro e w6 ⟨ho6, ⟨h3, h4, rfl, hR6⟩ | ⟨h3, rfl⟩⟩
            · have h3 : b5 = false := h3
              have h4 : k5 < L.length := h4
              subst h3
              have stA := HST9.out.call ho6 hR6 h4
              have bkA : Blk w6 w.heap.size 36 (scC (x.2.1, n1, n2, n3)) := stA.blk
              have d0 : w6.cell? ⟨w.heap.size, 0, none⟩ = some (.string (bA x.2.1)) := bkA.cell 0
              have d1 : w6.cell? ⟨w.heap.size, 1, none⟩ = some (.int .i64 n1) := bkA.cell 1
              have d2 : w6.cell? ⟨w.heap.size, 2, none⟩ = some (.int .i64 n2) := bkA.cell 2
              have d3 : w6.cell? ⟨w.heap.size, 3, none⟩ = some (.int .i64 n3) := bkA.cell 3
              have f0 := bkA.free 0
              have f1 := bkA.free 1
              have f2 := bkA.free 2
              have f3 := bkA.free 3
              have stB := (((stA.set 0 (.string (bA x.2.1))).set 1 (.int .i64 n1)).set 2 (.int .i64 n2)).set 3 (.int .i64 n3)
              have HSTB := Lib.hid stB
              have HBK := Lib.hid bkA
              clear C6 HST9 stA ho6 hR6 h4 stB bkA
              rw [lexA_text]
              go_wp2
              exact bodyPost_ret (results_cell_row (p := 2) (ty := 36) rfl _ _ w.heap.size 36 (scC (x.2.1, n1, n2, n3)) (0, 0) _ rfl (four_set HBK.out) Tryd.underlying36 rfl sc_size) rfl ⟨HSTB.out.own, .inl ⟨rfl, HSTB.out.lt, rfl, HSTB.out.rd⟩⟩
            · have h3 : b5 = true := h3
              subst h3
              go_wp2
              exact bodyPost_pan rfl ⟨onlyT HST9.out.own ho6, .inr ⟨rfl, rfl⟩⟩
          · have h3 : b4 = true := h3
            subst h3
            have e1 : Q.2 = (k4, true) := by rw [HQ.out]; exact sectR_bad4 HX.out HN1.out HN2.out HN3.out
            obtain ⟨Q1, Q2⟩ := Q
            have e1 : Q2 = (k4, true) := e1
            subst e1
            go_wp2
            exact bodyPost_pan rfl ⟨onlyT HST7.out.own ho5, .inr ⟨rfl, rfl⟩⟩
        · have h3 : b3 = true := h3
          subst h3
          have e1 : Q.2 = (k3, true) := by rw [HQ.out]; exact sectR_bad3 HX.out HN1.out HN2.out
          obtain ⟨Q1, Q2⟩ := Q
          have e1 : Q2 = (k3, true) := e1
          subst e1
          go_wp2
          exact bodyPost_pan rfl ⟨onlyT HST5.out.own ho4, .inr ⟨rfl, rfl⟩⟩
      · have h3 : b2 = true := h3
        subst h3
        have e1 : Q.2 = (k2, true) := by rw [HQ.out]; exact sectR_bad2 HX.out HN1.out
        obtain ⟨Q1, Q2⟩ := Q
        have e1 : Q2 = (k2, true) := e1
        subst e1
        go_wp2
        exact bodyPost_pan rfl ⟨onlyT HST3.out.own ho3, .inr ⟨rfl, rfl⟩⟩
    · have h3 : b1 = true := h3
      subst h3
      have e1 : Q.2 = (k1, true) := by rw [HQ.out]; exact sectR_bad1 HX.out
      obtain ⟨Q1, Q2⟩ := Q
      have e1 : Q2 = (k1, true) := e1
      subst e1
      go_wp2
      exact bodyPost_pan rfl ⟨onlyT HST1.out.own ho2, .inr ⟨rfl, rfl⟩⟩
  · cases h2
end Go.Proofs.YtacbmmnipedpdaaDoor

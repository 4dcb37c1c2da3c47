/- Chapter 15: the reader of material: grade, by walking its text. -/
import Derived.Test.YtacbmmnipedpdaaDoorMatP2
import Derived.Test.YtacbmmnipedpdaaDoorTorRg
namespace Go.Proofs.YtacbmmnipedpdaaDoor
open Go Go.RowKit
set_option linter.unusedSimpArgs false

theorem own_only {base gp : Nat} {w w' : World} {e : TypeId} {size n : Nat} {v : Value} {xs : List Value} (h : w.ownsRow base e size v n xs) (ho : w.grownBy w' (some gp)) (hg : gp < base) : w'.ownsRow base e size v n xs := by
  have hlt := World.ownsRow.lt h
  refine ⟨h.1, ?_⟩
  rcases h.2 with h0 | ⟨g, cap, cur, rfl, hb', hh, r⟩
  · exact .inl h0
  · exact .inr ⟨g, cap, cur, rfl, hb', (ho.block g (hlt g rfl).2 (fun e => by have := (hlt g rfl).1; injection e with e; omega)).trans hh, r⟩
theorem own_form15 {w : World} {base size n : Nat} {e : TypeId} {v : Value} {xs : List Value} (h : w.ownsRow base e size v n xs) : ∃ A c, v = .slice A n c := by
  rcases h.2 with ⟨rfl, h0⟩ | ⟨g, cap, cur, rfl, _⟩
  · exact ⟨_, _, by rw [h0]⟩
  · exact ⟨_, _, rfl⟩
theorem int_one {w : World} {g : Nat} {x : Int} (h : Blk w g 3 #[.int .i64 x]) (hx : inI64 x) : Rep.int.slice.R w (Lt w) [x] [.slice (some ⟨g, 0, none⟩) 1 1] :=
  Blk.ints (xs := [x]) h (fun y hy => by rw [List.mem_singleton.1 hy]; exact hx) (c := 1) (by simp) (by omega)
theorem gauge_app {gp g : Nat} {L : List Lx} {w wr W1 W2 : World} {k k' : Nat} {cs : Array Value} {v : Value} {o : Obj} {n : Nat} {xs : List Value} (hst : RecSt gp g 32 L w k cs wr) (hown : wr.drew.ownsRow (g + 1) 3 1 v n xs) (ho : wr.drew.grownBy W1 (some gp)) (hR : RdIs gp (L.drop k') W1) (hk : k' < L.length) (hg2 : (W1.alloc o).grownBy W2 v.ownBlock) :
    RecSt gp g 32 L w k' cs W2 := by
  have hlt := World.ownsRow.lt hown
  have hgl := hst.gl
  have h1 : RecSt gp g 32 L w k' cs W1 := RecSt.call (W := wr.drew) ⟨hst.blk.drewN 1, only_drewN hst.own 1, by
    obtain ⟨A, n, c, h1, h2⟩ := hst.rd
    exact ⟨A, n, c, h1.drewN 1, h2⟩, hst.lt, hst.gl, hst.ge⟩ ho hR hk
  have hgs := h1.blk.lt
  have hne : ∀ b, b ≤ g → some b ≠ v.ownBlock := fun b hb e => by have := (hlt b e.symm).1; omega
  have hbl : ∀ b, b ≤ g → W2.heap[b]? = W1.heap[b]? := fun b hb => (hg2.block b (by simp; omega) (hne b hb)).trans (Below.heap_alloc _ _ b (by omega))
  refine ⟨(hbl g (Nat.le_refl _)).trans h1.blk, ?_, ?_, hk, hst.gl, hst.ge⟩
  · have hsz := hg2.size
    refine ⟨hg2.os.trans h1.own.os, hg2.tape.trans h1.own.tape, hg2.output.trans h1.own.output, by have := h1.own.size; simp at hsz; omega, fun i hi hn => ?_⟩
    exact (hbl i (by have := hst.ge; omega)).trans (h1.own.block i hi hn)
  · obtain ⟨A, n, c, h2, h3⟩ := h1.rd
    exact ⟨A, n, c, (hbl gp (by omega)).trans h2, Rep.keep _ (fun b (hb : b < gp) => hbl b (by omega)) h3⟩
theorem gaugesR_yes {L : List Lx} {f k : Nat} {acc : List Int} (h : fitB (lxN L k) 2 [] = true) : gaugesR L (f + 1) (k, false) acc = gaugesR L f (k + 1, false) (acc ++ [(lxN L k).2.2.1]) := by
  rw [gaugesR, if_neg (by simp [h])]
theorem gaugesR_no {L : List Lx} {f k : Nat} {acc : List Int} (h : fitB (lxN L k) 2 [] = false) : gaugesR L f (k, false) acc = (acc, (k, false)) := by
  cases f with
  | zero => rfl
  | succ f => rw [gaugesR, if_pos (.inr h)]
theorem gaugesR_bad {L : List Lx} {f k : Nat} {acc : List Int} : gaugesR L f (k, true) acc = (acc, (k, true)) := by
  cases f with
  | zero => rfl
  | succ f => rw [gaugesR, if_pos (.inl rfl)]
theorem gradeR_bad1 {L : List Lx} {k k1 : Nat} {x : Lx} (h : takeR L (k, false) 1 [] = (x, (k1, true))) : (gradeR L (k, false)).2 = (k1, true) := by
  unfold gradeR
  simp only [h, num_bad, take_bad, gaugesR_bad]
theorem gradeR_bad2 {L : List Lx} {k k1 k2 : Nat} {x : Lx} {n : Int} (h : takeR L (k, false) 1 [] = (x, (k1, false))) (h2 : numR L (k1, false) tDensity = (n, (k2, true))) : (gradeR L (k, false)).2 = (k2, true) := by
  unfold gradeR
  simp only [h, h2, num_bad, take_bad, gaugesR_bad]
theorem gradeR_bad3 {L : List Lx} {k k1 k2 k3 : Nat} {x : Lx} {n n2 : Int} (h : takeR L (k, false) 1 [] = (x, (k1, false))) (h2 : numR L (k1, false) tDensity = (n, (k2, false))) (h3 : numR L (k2, false) tYield = (n2, (k3, true))) : (gradeR L (k, false)).2 = (k3, true) := by
  unfold gradeR
  simp only [h, h2, h3, num_bad, take_bad, gaugesR_bad]
theorem gradeR_bad4 {L : List Lx} {k k1 k2 k3 k4 : Nat} {x : Lx} {n n2 n3 : Int} (h : takeR L (k, false) 1 [] = (x, (k1, false))) (h2 : numR L (k1, false) tDensity = (n, (k2, false))) (h3 : numR L (k2, false) tYield = (n2, (k3, false))) (h4 : numR L (k3, false) tGauges = (n3, (k4, true))) : (gradeR L (k, false)).2 = (k4, true) := by
  unfold gradeR
  simp only [h, h2, h3, h4, take_bad, gaugesR_bad]
theorem gradeR_all {L : List Lx} {k k1 k2 k3 k4 k5 : Nat} {x : Lx} {n n2 n3 : Int} {gs : List Int} (h : takeR L (k, false) 1 [] = (x, (k1, false))) (h2 : numR L (k1, false) tDensity = (n, (k2, false))) (h3 : numR L (k2, false) tYield = (n2, (k3, false))) (h4 : numR L (k3, false) tGauges = (n3, (k4, false))) (h5 : gaugesR L L.length (k4, false) [n3] = (gs, (k5, false))) : gradeR L (k, false) = ((x.2.1, n, n2, gs), (takeR L (k5, false) 4 [59]).2) := by
  unfold gradeR
  simp only [h, h2, h3, h4, h5]
/-- what a grade's cells read as. -/
def GrOut (g : Gr) (base : Nat) (a : Array Value) (w : World) : Prop := ∃ v, a = #[.string (bA g.1), .int .i64 g.2.1, .int .i64 g.2.2.1, v] ∧ w.ownsRow base 3 1 v g.2.2.2.length (g.2.2.2.map (Value.int .i64))
def GrStep (gp : Nat) (L : List Lx) (q : Gr × Rd) (w : World) (e : Ending) (w' : World) : Prop :=
  w.grownBy w' (some gp) ∧ ((q.2.2 = false ∧ q.2.1 < L.length ∧ (∃ a, e = .returned (.agg a) ∧ GrOut q.1 (w.heap.size + 1) a w') ∧ RdIs gp (L.drop q.2.1) w') ∨ (q.2.2 = true ∧ e = .panicked [misV L q.2.1]))
/-- every number among the lexemes is an int. -/
def Nums15 (L : List Lx) : Prop := ∀ k, inI64 (lxN L k).2.2.1
theorem take_i64 {L : List Lx} (hI : Nums15 L) (x : Rd) (kd : Int) (t : List UInt8) : inI64 (takeR L x kd t).1.2.2.1 := by
  unfold takeR
  split
  · show inI64 0; unfold inI64; decide
  · exact hI _
theorem num_i64 {L : List Lx} (hI : Nums15 L) (x : Rd) (t : List UInt8) : inI64 (numR L x t).1 := take_i64 hI _ _ _
/-- where the gauges of a grade are being read. -/
def GaSt (gp g : Nat) (L : List Lx) (w : World) (nm : Value) (n1 n2 : Int) (R : List Int × Rd) (k : Nat) (wr : World) : Prop :=
  ∃ (f : Nat) (v : Value) (acc : List Int), RecSt gp g 32 L w k #[nm, .int .i64 n1, .int .i64 n2, v] wr ∧ wr.ownsRow (g + 1) 3 1 v acc.length (acc.map (Value.int .i64)) ∧ acc.length ≤ k + 1 ∧ L.length ≤ f + k ∧ gaugesR L f (k, false) acc = R ∧ (∀ x ∈ acc, inI64 x)
theorem own_far {base g : Nat} {w : World} {e : TypeId} {size n : Nat} {v : Value} {xs : List Value} (h : w.ownsRow base e size v n xs) (hg : g < base) (i : Nat) (u : Value) : (w.setCell ⟨g, i, none⟩ u).ownsRow base e size v n xs :=
  own_only h (only_setCell (only_refl w (some g)) (p := ⟨g, i, none⟩) (.inl rfl) u) hg
theorem ga_next {gp g : Nat} {L : List Lx} {w W2 : World} {nm v v2 : Value} {n1 n2 : Int} {R : List Int × Rd} {k f : Nat} {acc : List Int} {y3 : Int} (hst : RecSt gp g 32 L w (k + 1) #[nm, .int .i64 n1, .int .i64 n2, v] W2) (hown : W2.ownsRow (g + 1) 3 1 v2 (acc.length + 1) (acc.map (Value.int .i64) ++ [.int .i64 y3])) (hA : acc.length ≤ k + 1) (hlf : L.length ≤ f + k) (hgr : gaugesR L f (k, false) acc = R) (hai : ∀ x ∈ acc, inI64 x) (hfit : fitB (lxN L k) 2 [] = true) (hy : (lxN L k).2.2.1 = y3) (hy3 : inI64 y3) :
    GaSt gp g L w nm n1 n2 R (k + 1) (W2.setCell ⟨g, 3, none⟩ v2) := by
  have hk := hst.lt
  obtain ⟨f, rfl⟩ : ∃ f', f = f' + 1 := ⟨f - 1, by omega⟩
  rw [gaugesR_yes hfit, hy] at hgr
  have hs := hst.set 3 v2
  refine ⟨f, v2, acc ++ [y3], by simpa using hs, ?_, by simp; omega, by omega, hgr, fun x hx => ?_⟩
  · have := own_far hown (Nat.lt_succ_self g) 3 v2
    simpa using this
  · rcases List.mem_append.1 hx with h | h
    · exact hai x h
    · rw [List.mem_singleton.1 h]; exact hy3
theorem kind_fit {x : Lx} : fitB x 2 [] = (x.1 == 2) := by
  unfold fitB; rw [Bool.eq_iff_iff]; simp
set_option maxRecDepth 100000 in
set_option maxHeartbeats 8000000 in
theorem grade_at (gp : Nat) (L : List Lx) (hE : Ends15 L) (hI : Nums15 L) (hLL : L.length ≤ 100000) (k : Nat) (hk : k < L.length) (hw : fitB (lxN L k) 1 tGrade = true) (w : World) (hR : RdIs gp (L.drop k) w) :
    Calls Tryd.prog 46 #[.pointer (some ⟨gp, 0, none⟩)] w (GrStep gp L (gradeR L (k + 1, false)) w) := by
  have hgp : gp < w.heap.size := by obtain ⟨A, n, c, h, -⟩ := hR; exact h.lt
  have st0 : RecSt gp w.heap.size 32 L w k #[.string ⟨#[]⟩, .int .i64 0, .int .i64 0, .slice none 0 0] (w.alloc (.cells #[.string ⟨#[]⟩, .int .i64 0, .int .i64 0, .slice none 0 0] 32)) := by
    obtain ⟨A, n, c, h, h2⟩ := hR
    exact ⟨Blk.new w _ _, only_alloc (only_refl _ _) _, ⟨A, n, c, h.alloc _, lx_keep h2 (Nat.le_of_lt hgp) (only_alloc (only_refl _ _) _)⟩, hk, hgp, Nat.le_refl _⟩
  have C1 := Lib.hid (next_at gp L hE k hk 1 (by decide) tGrade _ st0.rd)
  rw [take_yes hw] at C1
  obtain ⟨Q, hQ⟩ : ∃ Q, Q = gradeR L (k + 1, false) := ⟨_, rfl⟩
  have HQ := Lib.hid hQ
  rw [← hQ]
  have HST := Lib.hid st0
  have fl1 := lex_field1
  have fl2 := lex_field2
  obtain ⟨i0, hi0, hz0, hz1, hz2⟩ := info_parts mt_int_info
  clear hQ hR st0 hgp
  go_enter Tryd.func46, Tryd.ntmps46
  go_wp2_with fail
  generalize w.alloc (.cells #[.string ⟨#[]⟩, .int .i64 0, .int .i64 0, .slice none 0 0] 32) = W at *
  refine C1.out.mono ?_
  rintro e w1 ⟨ho1, ⟨-, h1, rfl, hR1⟩ | ⟨h2, -⟩⟩
  · have st1 := HST.out.call ho1 hR1 h1
    have C2 := Lib.hid (next_at gp L hE (k + 1) h1 1 (by decide) [] w1 hR1)
    have HST1 := Lib.hid st1
    generalize hr : takeR L (k + 1, false) 1 [] = r at *
    obtain ⟨x, k1, b1⟩ := r
    have HX := Lib.hid hr
    clear C1 HST st1 ho1 hR1 h1 hr
    go_wp2_with fail
    refine C2.out.mono ?_
    rintro e w2 ⟨ho2, ⟨h3, h4, rfl, hR2⟩ | ⟨h3, rfl⟩⟩
    · have h3 : b1 = false := h3
      have h4 : k1 < L.length := h4
      subst h3
      have st2 := HST1.out.call ho2 hR2 h4
      have d0 : w2.cell? ⟨w.heap.size, 0, none⟩ = some (.string ⟨#[]⟩) := st2.blk.cell 0
      have f0 := st2.blk.free 0
      have st3 := st2.set 0 (.string (bA x.2.1))
      have C3 := Lib.hid (number_at gp L hE k1 h4 tDensity _ st3.rd)
      generalize hr : numR L (k1, false) tDensity = r at *
      obtain ⟨n1, k2, b2⟩ := r
      have HN1 := Lib.hid hr
      have HST3 := Lib.hid st3
      clear C2 HST1 st2 ho2 hR2 h4 hr st3
      rw [lexA_text]
      go_wp2_with fail
      generalize w2.setCell ⟨w.heap.size, 0, none⟩ (.string (bA x.2.1)) = W2 at *
      refine C3.out.mono ?_
      rintro e w3 ⟨ho3, ⟨h3, h4, rfl, hR3⟩ | ⟨h3, rfl⟩⟩
      · have h3 : b2 = false := h3
        have h4 : k2 < L.length := h4
        subst h3
        have st4 := HST3.out.call ho3 hR3 h4
        have d1 : w3.cell? ⟨w.heap.size, 1, none⟩ = some (.int .i64 0) := st4.blk.cell 1
        have f1 := st4.blk.free 1
        have st5 := st4.set 1 (.int .i64 n1)
        have C4 := Lib.hid (number_at gp L hE k2 h4 tYield _ st5.rd)
        generalize hr : numR L (k2, false) tYield = r at *
        obtain ⟨n2, k3, b3⟩ := r
        have HN2 := Lib.hid hr
        have HST5 := Lib.hid st5
        clear C3 HST3 st4 ho3 hR3 h4 hr st5 d0 f0
        go_wp2_with fail
        generalize w3.setCell ⟨w.heap.size, 1, none⟩ (.int .i64 n1) = W3 at *
        refine C4.out.mono ?_
        rintro e w4 ⟨ho4, ⟨h3, h4, rfl, hR4⟩ | ⟨h3, rfl⟩⟩
        · have h3 : b3 = false := h3
          have h4 : k3 < L.length := h4
          subst h3
          have st6 := HST5.out.call ho4 hR4 h4
          have d2 : w4.cell? ⟨w.heap.size, 2, none⟩ = some (.int .i64 0) := st6.blk.cell 2
          have f2 := st6.blk.free 2
          have st7 := st6.set 2 (.int .i64 n2)
          have C5 := Lib.hid (number_at gp L hE k3 h4 tGauges _ st7.rd)
          generalize hr : numR L (k3, false) tGauges = r at *
          obtain ⟨n3, k4, b4⟩ := r
          have HN3 := Lib.hid hr
          have HST7 := Lib.hid st7
          clear C4 HST5 st6 ho4 hR4 h4 hr st7 d1 f1
          go_wp2_with fail
          generalize w4.setCell ⟨w.heap.size, 2, none⟩ (.int .i64 n2) = W4 at *
          refine C5.out.mono ?_
          rintro e w5 ⟨ho5, ⟨h3, h4, rfl, hR5⟩ | ⟨h3, rfl⟩⟩
          · have h3 : b4 = false := h3
            have h4 : k4 < L.length := h4
            subst h3
            have st8 := HST7.out.call ho5 hR5 h4
            have d3 : w5.cell? ⟨w.heap.size, 3, none⟩ = some (.slice none 0 0) := st8.blk.cell 3
            have f3 := st8.blk.free 3
            have hn3 : inI64 n3 := by have := num_i64 hI (k3, false) tGauges; rw [HN3.out] at this; exact this
            have bA5 := (Below.refl w5.heap.size w5).alloc (Nat.le_refl _) (.cells #[.int .i64 n3] 3)
            have hw5 := st8.blk.lt
            have hk5 := st8.gl
            have st9 : RecSt gp w.heap.size 32 L w k4 #[.string (bA x.2.1), .int .i64 n1, .int .i64 n2, .slice none 0 0] (w5.alloc (.cells #[.int .i64 n3] 3)) := by
              refine st8.call (only_alloc (only_refl _ _) _) ?_ h4
              obtain ⟨A, n, c, h1, h2⟩ := st8.rd
              exact ⟨A, n, c, h1.alloc _, lx_keep h2 (by omega) (only_alloc (only_refl _ _) _)⟩
            have e3 : (w5.alloc (.cells #[.int .i64 n3] 3)).cell? ⟨w.heap.size, 3, none⟩ = some (.slice none 0 0) := st9.blk.cell 3
            have ef3 := st9.blk.free 3
            have stA := st9.set 3 (.slice (some ⟨w5.heap.size, 0, none⟩) 1 1)
            have stA : RecSt gp w.heap.size 32 L w k4 #[.string (bA x.2.1), .int .i64 n1, .int .i64 n2, .slice (some ⟨w5.heap.size, 0, none⟩) 1 1] ((w5.alloc (.cells #[.int .i64 n3] 3)).setCell ⟨w.heap.size, 3, none⟩ (.slice (some ⟨w5.heap.size, 0, none⟩) 1 1)) := by simpa using stA
            have bo : Blk ((w5.alloc (.cells #[.int .i64 n3] 3)).setCell ⟨w.heap.size, 3, none⟩ (.slice (some ⟨w5.heap.size, 0, none⟩) 1 1)) w5.heap.size 3 #[.int .i64 n3] := (Blk.new w5 _ _).far (p := ⟨w.heap.size, 3, none⟩) (by show w5.heap.size ≠ w.heap.size; omega) _
            have own0 : ((w5.alloc (.cells #[.int .i64 n3] 3)).setCell ⟨w.heap.size, 3, none⟩ (.slice (some ⟨w5.heap.size, 0, none⟩) 1 1)).ownsRow (w.heap.size + 1) 3 1 (.slice (some ⟨w5.heap.size, 0, none⟩) 1 1) 1 [.int .i64 n3] := by
              refine ⟨rfl, .inr ⟨w5.heap.size, 1, #[.int .i64 n3], rfl, by omega, bo, by omega, by unfold maxLen; omega, rfl, rfl⟩⟩
            obtain ⟨R, hRR⟩ : ∃ R, R = gaugesR L L.length (k4, false) [n3] := ⟨_, rfl⟩
            have HRR := Lib.hid hRR
            have HGA : Hid (GaSt gp w.heap.size L w (.string (bA x.2.1)) n1 n2 R k4 ((w5.alloc (.cells #[.int .i64 n3] 3)).setCell ⟨w.heap.size, 3, none⟩ (.slice (some ⟨w5.heap.size, 0, none⟩) 1 1))) :=
              ⟨L.length, _, [n3], stA, own0, by simp, by omega, hRR.symm, fun y hy => by rw [List.mem_singleton.1 hy]; exact hn3⟩
            clear C5 HST7 st8 ho5 hR5 d2 f2 d3 f3 bA5 hw5 hk5 st9 stA bo own0 hRR hn3
            go_wp2
            go_loopg [] (L.length - k4) (fun gh wr => ∃ k : Nat, k + gh = L.length ∧ Hid (GaSt gp w.heap.size L w (.string (bA x.2.1)) n1 n2 R k wr))
            case atStart => exact ⟨k4, by omega, HGA.out⟩
            case round =>
              clear e3 ef3 HGA
              obtain ⟨k', hkg, hga⟩ := hrel
              obtain ⟨f, v, acc, hst, hown, hal, hlf, hgr, hai⟩ := hga.out
              obtain ⟨g, hg⟩ : ∃ g, g = w.heap.size := ⟨_, rfl⟩
              have hgw := hst.ge
              have hgg := hst.gl
              have hk' := hst.lt
              have c3 : wr.cell? ⟨w.heap.size, 3, none⟩ = some v := hst.blk.cell 3
              have hrd := hst.rd
              rw [drop_lx hk'] at hrd
              obtain ⟨A, n, c, hB, hl⟩ := hrd
              obtain ⟨hn, -⟩ := slice_ln hl
              obtain ⟨b, off, rfl, -, q0, q1, q2, q3⟩ := lxs_at hl
              have hn0 : (0 : Int) < (n : Int) := by rw [hn]; simp <;> omega
              have p0 := hB.c0
              have HST := Lib.hid hst
              have HOWN := Lib.hid hown
              have HAL := Lib.hid (And.intro hal (And.intro hlf (And.intro hgr hai)))
              clear hB hl hn hga hst hown hal hlf hgr hai q1 q2 q3
              cases hfit : fitB (lxN L k') 2 []
              · have hq := hfit
                rw [kind_fit] at hq
                obtain ⟨hal, hlf, hgr, hai⟩ := HAL.out
                have e5 : gaugesR L L.length (k4, false) [n3] = (acc, (k', false)) := by rw [← HRR.out, ← hgr, gaugesR_no hfit]
                have e1 : Q = ((x.2.1, n1, n2, acc), (takeR L (k', false) 4 [59]).2) := by rw [HQ.out]; exact gradeR_all HX.out HN1.out HN2.out HN3.out e5
                subst e1
                have C6 := Lib.hid (next_at gp L hE k' hk' 4 (by decide) [59] _ HST.out.rd)
                generalize hr : takeR L (k', false) 4 [59] = r at *
                obtain ⟨y, k5, b5⟩ := r
                clear hal hlf hgr hai e5 HAL HQ hfit hr
                go_wp2_with fail
                refine C6.out.mono ?_
                rintro e w6 ⟨ho6, ⟨h3, h4, rfl, hR6⟩ | ⟨h3, rfl⟩⟩
                · have h3 : b5 = false := h3
                  have h4 : k5 < L.length := h4
                  subst h3
                  have stA := HST.out.call ho6 hR6 h4
                  have ownA := own_only HOWN.out ho6 (by omega)
                  have bkA := stA.blk
                  have d0 : w6.cell? ⟨w.heap.size, 0, none⟩ = some (.string (bA x.2.1)) := bkA.cell 0
                  have d1 : w6.cell? ⟨w.heap.size, 1, none⟩ = some (.int .i64 n1) := bkA.cell 1
                  have d2 : w6.cell? ⟨w.heap.size, 2, none⟩ = some (.int .i64 n2) := bkA.cell 2
                  have d3 : w6.cell? ⟨w.heap.size, 3, none⟩ = some v := bkA.cell 3
                  have f0 := bkA.free 0
                  have f1 := bkA.free 1
                  have f2 := bkA.free 2
                  have f3 := bkA.free 3
                  have stB := (((stA.set 0 (.string (bA x.2.1))).set 1 (.int .i64 n1)).set 2 (.int .i64 n2)).set 3 v
                  have ownB := own_far (own_far (own_far (own_far ownA (Nat.lt_succ_self _) 0 (.string (bA x.2.1))) (Nat.lt_succ_self _) 1 (.int .i64 n1)) (Nat.lt_succ_self _) 2 (.int .i64 n2)) (Nat.lt_succ_self _) 3 v
                  have HSTB := Lib.hid stB
                  have HOB := Lib.hid ownB
                  have HBK := Lib.hid bkA
                  obtain ⟨vA, vc, rfl⟩ := own_form15 HOB.out
                  clear C6 HST stA ho6 hR6 h4 stB bkA ownA ownB hq
                  rw [lexA_text]
                  go_wp2
                  exact bodyPost_ret (results_cell_row (p := 2) (ty := 32) rfl _ _ w.heap.size 32 #[.string (bA x.2.1), .int .i64 n1, .int .i64 n2, .slice vA acc.length vc] (0, 0) _ rfl (four_set HBK.out) Tryd.underlying32 rfl gr_size) rfl ⟨HSTB.out.own, .inl ⟨rfl, HSTB.out.lt, ⟨_, rfl, _, rfl, HOB.out⟩, HSTB.out.rd⟩⟩
                · have h3 : b5 = true := h3
                  subst h3
                  go_wp2
                  exact bodyPost_pan rfl ⟨onlyT HST.out.own ho6, .inr ⟨rfl, rfl⟩⟩
              · have hq := hfit
                rw [kind_fit] at hq
                have hk1 : k' + 1 < L.length := fit_next hE hk' (by decide) hfit
                have hrd0 : RdIs gp (lxN L k' :: L.drop (k' + 1)) wr.drew := by
                  have := HST.out.rd
                  rw [drop_lx hk'] at this
                  obtain ⟨A, n, c, h1, h2⟩ := this
                  exact ⟨A, n, c, h1.drewN 1, h2⟩
                have HC := Lib.hid (next_ok gp (lxN L k') (L.drop (k' + 1)) 2 [] wr.drew hrd0 hfit)
                have hx3 := hI k'
                have HF : Hid (fitB (lxN L k') 2 [] = true) := hfit
                obtain ⟨y, hy⟩ : ∃ y, y = lxN L k' := ⟨_, rfl⟩
                rw [← hy] at HC hx3 hq q0
                have HY := Lib.hid hy
                obtain ⟨y1, y2, x3, y4⟩ := y
                have hst := HST.out
                have hown0 : wr.drew.ownsRow (w.heap.size + 1) 3 1 v acc.length (acc.map (Value.int .i64)) := HOWN.out
                have hacl : acc.length ≤ 100001 := by have := HAL.out.1; omega
                simp only at hq hx3 q0
                clear hfit hy hrd0
                go_wp2
                refine wp_region_held_drew (S := (fun _ => True)) (by kernel_rfl) (trivial) (fun hH => ?_)
                refine take_run (i := 0) (v := ?_) (by decide) (by kernel_rfl) (by kernel_rfl) (by kernel_rfl) (fun _ _ _ _ h => h) hH rfl ?_ ?_
                rotate_left
                · (intro w hSw; (try dsimp only at hSw); (try go_split_ands); simp only [List.getElem_toArray, List.getElem_cons_zero]; go_simp; try with_reducible rfl)
                try simp (config := { failIfUnchanged := false }) only [Act.put, List.setIfInBounds_toArray, List.set_cons_zero, List.set_cons_succ, List.getElem_toArray, List.getElem_cons_zero, List.getElem_cons_succ]
                refine take_run (i := 2) (v := ?_) (by decide) (by kernel_rfl) (by kernel_rfl) (by kernel_rfl) (fun _ _ _ _ h => h) hH rfl ?_ ?_
                rotate_left
                · (intro w hSw; (try dsimp only at hSw); (try go_split_ands); simp only [List.getElem_toArray, List.getElem_cons_zero, List.getElem_cons_succ]; go_simp; try with_reducible rfl)
                try simp (config := { failIfUnchanged := false }) only [Act.put, List.setIfInBounds_toArray, List.set_cons_zero, List.set_cons_succ, List.getElem_toArray, List.getElem_cons_zero, List.getElem_cons_succ]
                refine take_two (i := 1) (j := 3) (by decide) (by decide) (by kernel_rfl) (fun K hK => ?_) (fun K hK => ?_)
                focus
                  simp only [List.getElem_toArray, List.getElem_cons_zero, List.getElem_cons_succ]
                  go_simp
                  refine hK.out _ _ (by trivial) (fun hH => ?_)
                  clear hK K
                  try simp (config := { failIfUnchanged := false }) only [Act.put, List.setIfInBounds_toArray, List.set_cons_zero, List.set_cons_succ, List.getElem_toArray, List.getElem_cons_zero, List.getElem_cons_succ]
                  refine take_call (i := 3) (by decide) (by kernel_rfl) (fun K hK => ?_)
                  simp only [List.getElem_toArray, List.getElem_cons_zero, List.getElem_cons_succ]
                  go_simp
                  go_at_call 48
                  refine HC.out.mono ?_
                  rintro e W1 ⟨rfl, hR1, ho1⟩
                  have hown1 := own_only hown0 ho1 (by omega)
                  have bk1 := Blk.grown (Blk.drewN hst.blk 1) ho1 (fun e => by injection e with e; omega)
                  have c3b := bk1.cell 3
                  simp only [List.getElem?_toArray, List.getElem?_cons_succ, List.getElem?_cons_zero] at c3b
                  have c3c := (bk1.alloc (.cells #[.int .i64 x3] 3)).cell 3
                  simp only [List.getElem?_toArray, List.getElem?_cons_succ, List.getElem?_cons_zero] at c3c
                  rw [lexA_text]
                  dsimp only
                  refine hK.out _ _ (by trivial) (fun hH => ?_)
                  clear hK K
                  try simp (config := { failIfUnchanged := false }) only [Act.put, List.setIfInBounds_toArray, List.set_cons_zero, List.set_cons_succ, List.getElem_toArray, List.getElem_cons_zero, List.getElem_cons_succ]
                  refine take_run (i := 4) (v := ?_) (by decide) (by kernel_rfl) (by kernel_rfl) (by kernel_rfl) (fun _ _ _ _ h => h) hH rfl ?_ ?_
                  rotate_left
                  · (intro w hSw; (try dsimp only at hSw); (try go_split_ands); simp only [List.getElem_toArray, List.getElem_cons_zero, List.getElem_cons_succ]; go_simp; try with_reducible rfl)
                  try simp (config := { failIfUnchanged := false }) only [Act.put, List.setIfInBounds_toArray, List.set_cons_zero, List.set_cons_succ, List.getElem_toArray, List.getElem_cons_zero, List.getElem_cons_succ]
                  refine take_call (i := 5) (by decide) (by kernel_rfl) (fun K hK => ?_)
                  simp only [List.getElem_toArray, List.getElem_cons_zero, List.getElem_cons_succ]
                  go_simp
                  refine hK.out _ _ (by trivial) (fun hH => ?_)
                  clear hK K
                  try simp (config := { failIfUnchanged := false }) only [Act.put, List.setIfInBounds_toArray, List.set_cons_zero, List.set_cons_succ, List.getElem_toArray, List.getElem_cons_zero, List.getElem_cons_succ]
                  refine take_call (i := 6) (by decide) (by kernel_rfl) (fun K hK => ?_)
                  refine step_append_flat flat_int (by rfl) _ _ _ (by rfl) (w.heap.size + 1) 3 i0 (.int .i64 0) 8 Tryd.underlying30 hi0 hz0 hz1 hz2 rfl v _ _ (by rfl) (World.ownsRow.alloc hown1 _) [x3] (by rfl) (int_one (Blk.new W1 3 #[.int .i64 x3]) hx3) (by simp; omega) (by simp; omega) (by have := bk1.lt; simp; omega) ?_
                  intro v2 W2 hown2 hg2
                  obtain ⟨vA2, vc2, rfl⟩ := own_form15 hown2
                  have hst2 := gauge_app hst hown0 ho1 hR1 hk1 hg2
                  have bk2 := hst2.blk
                  have c3d := bk2.cell 3
                  simp only [List.getElem?_toArray, List.getElem?_cons_succ, List.getElem?_cons_zero] at c3d
                  have f3d := bk2.free 3
                  refine hK.out _ _ (by trivial) (fun hH => ?_)
                  clear hK K
                  try simp (config := { failIfUnchanged := false }) only [Act.put, List.setIfInBounds_toArray, List.set_cons_zero, List.set_cons_succ, List.getElem_toArray, List.getElem_cons_zero, List.getElem_cons_succ]
                  refine take_run (i := 7) (v := ?_) (by decide) (by kernel_rfl) (by kernel_rfl) (by kernel_rfl) (fun _ _ _ _ h => h) hH rfl ?_ ?_
                  rotate_left
                  · (intro w hSw; (try dsimp only at hSw); (try go_split_ands); simp only [List.getElem_toArray, List.getElem_cons_zero, List.getElem_cons_succ]; go_simp; try with_reducible rfl)
                  try simp (config := { failIfUnchanged := false }) only [Act.put, List.setIfInBounds_toArray, List.set_cons_zero, List.set_cons_succ, List.getElem_toArray, List.getElem_cons_zero, List.getElem_cons_succ]
                  refine take_call (i := 8) (by decide) (by kernel_rfl) (fun K hK => ?_)
                  simp only [List.getElem_toArray, List.getElem_cons_zero, List.getElem_cons_succ]
                  go_simp
                  refine hK.out _ _ (by trivial) (fun hH => ?_)
                  clear hK K
                  try simp (config := { failIfUnchanged := false }) only [Act.put, List.setIfInBounds_toArray, List.set_cons_zero, List.set_cons_succ, List.getElem_toArray, List.getElem_cons_zero, List.getElem_cons_succ]
                  refine wpAnyH_done (by kernel_rfl) ?_ _
                rotate_left 1
                focus
                  simp only [List.getElem_toArray, List.getElem_cons_zero, List.getElem_cons_succ]
                  go_simp
                  go_at_call 48
                  refine HC.out.mono ?_
                  rintro e W1 ⟨rfl, hR1, ho1⟩
                  have hown1 := own_only hown0 ho1 (by omega)
                  have bk1 := Blk.grown (Blk.drewN hst.blk 1) ho1 (fun e => by injection e with e; omega)
                  have c3b := bk1.cell 3
                  simp only [List.getElem?_toArray, List.getElem?_cons_succ, List.getElem?_cons_zero] at c3b
                  have c3c := (bk1.alloc (.cells #[.int .i64 x3] 3)).cell 3
                  simp only [List.getElem?_toArray, List.getElem?_cons_succ, List.getElem?_cons_zero] at c3c
                  rw [lexA_text]
                  dsimp only
                  refine hK.out _ _ (by trivial) (fun hH => ?_)
                  clear hK K
                  try simp (config := { failIfUnchanged := false }) only [Act.put, List.setIfInBounds_toArray, List.set_cons_zero, List.set_cons_succ, List.getElem_toArray, List.getElem_cons_zero, List.getElem_cons_succ]
                  refine take_run (i := 4) (v := ?_) (by decide) (by kernel_rfl) (by kernel_rfl) (by kernel_rfl) (fun _ _ _ _ h => h) hH rfl ?_ ?_
                  rotate_left
                  · (intro w hSw; (try dsimp only at hSw); (try go_split_ands); simp only [List.getElem_toArray, List.getElem_cons_zero, List.getElem_cons_succ]; go_simp; try with_reducible rfl)
                  try simp (config := { failIfUnchanged := false }) only [Act.put, List.setIfInBounds_toArray, List.set_cons_zero, List.set_cons_succ, List.getElem_toArray, List.getElem_cons_zero, List.getElem_cons_succ]
                  refine take_two (i := 1) (j := 5) (by decide) (by decide) (by kernel_rfl) (fun K hK => ?_) (fun K hK => ?_)
                  focus
                    simp only [List.getElem_toArray, List.getElem_cons_zero, List.getElem_cons_succ]
                    go_simp
                    refine hK.out _ _ (by trivial) (fun hH => ?_)
                    clear hK K
                    try simp (config := { failIfUnchanged := false }) only [Act.put, List.setIfInBounds_toArray, List.set_cons_zero, List.set_cons_succ, List.getElem_toArray, List.getElem_cons_zero, List.getElem_cons_succ]
                    refine take_call (i := 5) (by decide) (by kernel_rfl) (fun K hK => ?_)
                    simp only [List.getElem_toArray, List.getElem_cons_zero, List.getElem_cons_succ]
                    go_simp
                    refine hK.out _ _ (by trivial) (fun hH => ?_)
                    clear hK K
                    try simp (config := { failIfUnchanged := false }) only [Act.put, List.setIfInBounds_toArray, List.set_cons_zero, List.set_cons_succ, List.getElem_toArray, List.getElem_cons_zero, List.getElem_cons_succ]
                    refine take_call (i := 6) (by decide) (by kernel_rfl) (fun K hK => ?_)
                    refine step_append_flat flat_int (by rfl) _ _ _ (by rfl) (w.heap.size + 1) 3 i0 (.int .i64 0) 8 Tryd.underlying30 hi0 hz0 hz1 hz2 rfl v _ _ (by rfl) (World.ownsRow.alloc hown1 _) [x3] (by rfl) (int_one (Blk.new W1 3 #[.int .i64 x3]) hx3) (by simp; omega) (by simp; omega) (by have := bk1.lt; simp; omega) ?_
                    intro v2 W2 hown2 hg2
                    obtain ⟨vA2, vc2, rfl⟩ := own_form15 hown2
                    have hst2 := gauge_app hst hown0 ho1 hR1 hk1 hg2
                    have bk2 := hst2.blk
                    have c3d := bk2.cell 3
                    simp only [List.getElem?_toArray, List.getElem?_cons_succ, List.getElem?_cons_zero] at c3d
                    have f3d := bk2.free 3
                    refine hK.out _ _ (by trivial) (fun hH => ?_)
                    clear hK K
                    try simp (config := { failIfUnchanged := false }) only [Act.put, List.setIfInBounds_toArray, List.set_cons_zero, List.set_cons_succ, List.getElem_toArray, List.getElem_cons_zero, List.getElem_cons_succ]
                    refine take_run (i := 7) (v := ?_) (by decide) (by kernel_rfl) (by kernel_rfl) (by kernel_rfl) (fun _ _ _ _ h => h) hH rfl ?_ ?_
                    rotate_left
                    · (intro w hSw; (try dsimp only at hSw); (try go_split_ands); simp only [List.getElem_toArray, List.getElem_cons_zero, List.getElem_cons_succ]; go_simp; try with_reducible rfl)
                    try simp (config := { failIfUnchanged := false }) only [Act.put, List.setIfInBounds_toArray, List.set_cons_zero, List.set_cons_succ, List.getElem_toArray, List.getElem_cons_zero, List.getElem_cons_succ]
                    refine take_call (i := 8) (by decide) (by kernel_rfl) (fun K hK => ?_)
                    simp only [List.getElem_toArray, List.getElem_cons_zero, List.getElem_cons_succ]
                    go_simp
                    refine hK.out _ _ (by trivial) (fun hH => ?_)
                    clear hK K
                    try simp (config := { failIfUnchanged := false }) only [Act.put, List.setIfInBounds_toArray, List.set_cons_zero, List.set_cons_succ, List.getElem_toArray, List.getElem_cons_zero, List.getElem_cons_succ]
                    refine wpAnyH_done (by kernel_rfl) ?_ _
                  rotate_left 1
                  focus
                    simp only [List.getElem_toArray, List.getElem_cons_zero, List.getElem_cons_succ]
                    go_simp
                    refine hK.out _ _ (by trivial) (fun hH => ?_)
                    clear hK K
                    try simp (config := { failIfUnchanged := false }) only [Act.put, List.setIfInBounds_toArray, List.set_cons_zero, List.set_cons_succ, List.getElem_toArray, List.getElem_cons_zero, List.getElem_cons_succ]
                    refine take_call (i := 1) (by decide) (by kernel_rfl) (fun K hK => ?_)
                    simp only [List.getElem_toArray, List.getElem_cons_zero, List.getElem_cons_succ]
                    go_simp
                    refine hK.out _ _ (by trivial) (fun hH => ?_)
                    clear hK K
                    try simp (config := { failIfUnchanged := false }) only [Act.put, List.setIfInBounds_toArray, List.set_cons_zero, List.set_cons_succ, List.getElem_toArray, List.getElem_cons_zero, List.getElem_cons_succ]
                    refine take_call (i := 6) (by decide) (by kernel_rfl) (fun K hK => ?_)
                    refine step_append_flat flat_int (by rfl) _ _ _ (by rfl) (w.heap.size + 1) 3 i0 (.int .i64 0) 8 Tryd.underlying30 hi0 hz0 hz1 hz2 rfl v _ _ (by rfl) (World.ownsRow.alloc hown1 _) [x3] (by rfl) (int_one (Blk.new W1 3 #[.int .i64 x3]) hx3) (by simp; omega) (by simp; omega) (by have := bk1.lt; simp; omega) ?_
                    intro v2 W2 hown2 hg2
                    obtain ⟨vA2, vc2, rfl⟩ := own_form15 hown2
                    have hst2 := gauge_app hst hown0 ho1 hR1 hk1 hg2
                    have bk2 := hst2.blk
                    have c3d := bk2.cell 3
                    simp only [List.getElem?_toArray, List.getElem?_cons_succ, List.getElem?_cons_zero] at c3d
                    have f3d := bk2.free 3
                    refine hK.out _ _ (by trivial) (fun hH => ?_)
                    clear hK K
                    try simp (config := { failIfUnchanged := false }) only [Act.put, List.setIfInBounds_toArray, List.set_cons_zero, List.set_cons_succ, List.getElem_toArray, List.getElem_cons_zero, List.getElem_cons_succ]
                    refine take_run (i := 7) (v := ?_) (by decide) (by kernel_rfl) (by kernel_rfl) (by kernel_rfl) (fun _ _ _ _ h => h) hH rfl ?_ ?_
                    rotate_left
                    · (intro w hSw; (try dsimp only at hSw); (try go_split_ands); simp only [List.getElem_toArray, List.getElem_cons_zero, List.getElem_cons_succ]; go_simp; try with_reducible rfl)
                    try simp (config := { failIfUnchanged := false }) only [Act.put, List.setIfInBounds_toArray, List.set_cons_zero, List.set_cons_succ, List.getElem_toArray, List.getElem_cons_zero, List.getElem_cons_succ]
                    refine take_call (i := 8) (by decide) (by kernel_rfl) (fun K hK => ?_)
                    simp only [List.getElem_toArray, List.getElem_cons_zero, List.getElem_cons_succ]
                    go_simp
                    refine hK.out _ _ (by trivial) (fun hH => ?_)
                    clear hK K
                    try simp (config := { failIfUnchanged := false }) only [Act.put, List.setIfInBounds_toArray, List.set_cons_zero, List.set_cons_succ, List.getElem_toArray, List.getElem_cons_zero, List.getElem_cons_succ]
                    refine wpAnyH_done (by kernel_rfl) ?_ _
                all_goals
                  go_wp2
                  go_roundg (L.length - k' - 1)
                  case measure => omega
                  case rel => exact ⟨k' + 1, by omega, ga_next hst2 hown2 (by have := HAL.out.1; omega) HAL.out.2.1 HAL.out.2.2.1 HAL.out.2.2.2 HF.out (by rw [← HY.out]) hx3⟩
          · have h3 : b4 = true := h3
            subst h3
            have e1 : Q.2 = (k4, true) := by rw [HQ.out]; exact gradeR_bad4 HX.out HN1.out HN2.out HN3.out
            obtain ⟨Q1, Q2⟩ := Q
            have e1 : Q2 = (k4, true) := e1
            subst e1
            go_wp2
            exact bodyPost_pan rfl ⟨onlyT HST7.out.own ho5, .inr ⟨rfl, rfl⟩⟩
        · have h3 : b3 = true := h3
          subst h3
          have e1 : Q.2 = (k3, true) := by rw [HQ.out]; exact gradeR_bad3 HX.out HN1.out HN2.out
          obtain ⟨Q1, Q2⟩ := Q
          have e1 : Q2 = (k3, true) := e1
          subst e1
          go_wp2
          exact bodyPost_pan rfl ⟨onlyT HST5.out.own ho4, .inr ⟨rfl, rfl⟩⟩
      · have h3 : b2 = true := h3
        subst h3
        have e1 : Q.2 = (k2, true) := by rw [HQ.out]; exact gradeR_bad2 HX.out HN1.out
        obtain ⟨Q1, Q2⟩ := Q
        have e1 : Q2 = (k2, true) := e1
        subst e1
        go_wp2
        exact bodyPost_pan rfl ⟨onlyT HST3.out.own ho3, .inr ⟨rfl, rfl⟩⟩
    · have h3 : b1 = true := h3
      subst h3
      have e1 : Q.2 = (k1, true) := by rw [HQ.out]; exact gradeR_bad1 HX.out
      obtain ⟨Q1, Q2⟩ := Q
      have e1 : Q2 = (k1, true) := e1
      subst e1
      go_wp2
      exact bodyPost_pan rfl ⟨onlyT HST1.out.own ho2, .inr ⟨rfl, rfl⟩⟩
  · cases h2
end Go.Proofs.YtacbmmnipedpdaaDoor

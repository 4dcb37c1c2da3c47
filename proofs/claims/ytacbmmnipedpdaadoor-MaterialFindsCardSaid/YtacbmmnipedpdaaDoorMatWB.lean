/- Chapter 15: the reference's Grade, Section and Rolled, by walking their text. -/
import Derived.Test.YtacbmmnipedpdaaDoorMatWA
namespace Go.Proofs.YtacbmmnipedpdaaDoor
open Go Go.RowKit

theorem grF_hit {m : Mat} {nm : List UInt8} {i : Nat} {g : Gr} (h : (m.1.take i).any (fun x => x.1 == nm) = false) (hx : m.1[i]? = some g) (hp : (g.1 == nm) = true) : grF m nm = (g, true) := by
  unfold grF; rw [find_hit h hx hp]
theorem grF_miss {m : Mat} {nm : List UInt8} (h : m.1.any (fun x => x.1 == nm) = false) : grF m nm = (([], 0, 0, []), false) := by
  unfold grF; rw [find_miss h]
theorem scF_hit {m : Mat} {nm : List UInt8} {i : Nat} {g : Sc} (h : (m.2.take i).any (fun x => x.1 == nm) = false) (hx : m.2[i]? = some g) (hp : (g.1 == nm) = true) : scF m nm = (g, true) := by
  unfold scF; rw [find_hit h hx hp]
theorem scF_miss {m : Mat} {nm : List UInt8} (h : m.2.any (fun x => x.1 == nm) = false) : scF m nm = (([], 0, 0, 0), false) := by
  unfold scF; rw [find_miss h]
set_option maxRecDepth 100000 in
set_option maxHeartbeats 4000000 in
theorem refGradeOf_any (A B : Option Addr) (n c k d : Nat) (m : Mat) (nm : List UInt8) (w : World) (hg : grR.slice.R w (Lt w) m.1 [.slice A n c]) (hts : ∀ g ∈ m.1, g.2.2.2.length ≤ 1000) :
    Calls Tryd.prog 16 #[.agg #[.slice A n c, .slice B k d], .string (bA nm)] w (GradePost (grF m nm).1 (grF m nm).2 w) := by
  obtain ⟨hn, hnm⟩ := slice_ln hg
  obtain ⟨q, hq⟩ : ∃ q, q = grF m nm := ⟨_, rfl⟩
  rw [← hq]
  have HQ := Lib.hid hq
  clear hq
  obtain ⟨i0, hi0, hz0, hz1, hz2⟩ := info_parts mt_int_info
  have hbW : Below w.heap.size w ((w.alloc (.cells #[.slice A n c, .slice B k d] 25)).alloc (.cells #[.string ⟨#[]⟩, .int .i64 0, .int .i64 0, .slice none 0 0] 32)) := ((Below.refl w.heap.size w).alloc (Nat.le_refl _) _).alloc (by simp) _
  have b0 : Blk ((w.alloc (.cells #[.slice A n c, .slice B k d] 25)).alloc (.cells #[.string ⟨#[]⟩, .int .i64 0, .int .i64 0, .slice none 0 0] 32)) w.heap.size 25 #[.slice A n c, .slice B k d] := (Blk.new w _ _).alloc _
  have b1 : Blk ((w.alloc (.cells #[.slice A n c, .slice B k d] 25)).alloc (.cells #[.string ⟨#[]⟩, .int .i64 0, .int .i64 0, .slice none 0 0] 32)) (w.heap.size + 1) 32 #[.string ⟨#[]⟩, .int .i64 0, .int .i64 0, .slice none 0 0] := by
    have := Blk.new (w.alloc (.cells #[.slice A n c, .slice B k d] 25)) 32 #[.string ⟨#[]⟩, .int .i64 0, .int .i64 0, .slice none 0 0]
    simpa using this
  have hsz : ((w.alloc (.cells #[.slice A n c, .slice B k d] 25)).alloc (.cells #[.string ⟨#[]⟩, .int .i64 0, .int .i64 0, .slice none 0 0] 32)).heap.size = w.heap.size + 2 := by simp
  have HG := Lib.hid hg
  have HN := Lib.hid hn
  clear hg hn
  go_enter Tryd.func16, Tryd.ntmps16
  go_wp2
  generalize (w.alloc (.cells #[.slice A n c, .slice B k d] 25)).alloc (.cells #[.string ⟨#[]⟩, .int .i64 0, .int .i64 0, .slice none 0 0] 32) = W at *
  have c0 := b0.c20
  have d0 : W.cell? ⟨w.heap.size + 1, 0, none⟩ = some (.string ⟨#[]⟩) := b1.cell 0
  have d1 : W.cell? ⟨w.heap.size + 1, 1, none⟩ = some (.int .i64 0) := b1.cell 1
  have d2 : W.cell? ⟨w.heap.size + 1, 2, none⟩ = some (.int .i64 0) := b1.cell 2
  have d3 : W.cell? ⟨w.heap.size + 1, 3, none⟩ = some (.slice none 0 0) := b1.cell 3
  have f0 := b1.free 0
  have f1 := b1.free 1
  have f2 := b1.free 2
  have f3 := b1.free 3
  have HB1 := Lib.hid b1
  have HSZ := Lib.hid hsz
  clear b0 b1 hsz
  go_loopw [6] (fun iv wr => ∃ i : Nat, i ≤ n ∧ iv = .int .i64 i ∧ Hid ((m.1.take i).any (fun x => x.1 == nm) = false) ∧ wr = W) (fun iv _ => n - (intOf iv).toNat)
  case atStart => exact ⟨0, Nat.zero_le _, rfl, rfl, rfl⟩
  case round =>
    obtain ⟨i, hi, rfl, hno, rfl⟩ := hrel
    by_cases hlt : i < n
    · have hki : (i : Int) < (n : Int) := by omega
      obtain ⟨b, off, nx, d', y, ts, G, ng, cg, rfl, hx, hK, -, hG, hnx, hi1, hi2, -⟩ := gr_all HG.out (k := i) (by rw [← HN.out]; exact hlt)
      obtain ⟨k0, k1, k2, k3⟩ := hK.out _ hbW
      have hgl : ts.length ≤ 1000 := hts _ (List.mem_of_getElem? hx.out)
      by_cases he : nx = nm
      · subst he
        have e1 : q = ((nx, d', y, ts), true) := by rw [HQ.out]; exact grF_hit hno.out hx.out (by simp)
        subst e1
        clear HQ hts
        have q0 : (nx == nx) = true := by simp
        have hsz := HSZ.out
        have hba := (Below.refl wr.heap.size wr).alloc (Nat.le_refl _) (.cells #[.string (bA nx), .int .i64 d', .int .i64 y, .slice G ng cg] 32)
        have hbb := hba.alloc hba.size (.cells #[] 3)
        have hown0 : ((wr.alloc (.cells #[.string (bA nx), .int .i64 d', .int .i64 y, .slice G ng cg] 32)).alloc (.cells #[] 3)).ownsRow (wr.heap.size + 1) 3 1 (.slice (some ⟨wr.heap.size + 1, 0, none⟩) 0 0) 0 [] := by
          have := mt_made (wr.alloc (.cells #[.string (bA nx), .int .i64 d', .int .i64 y, .slice G ng cg] 32))
          simpa using this
        have hG3 := hG.out _ (bstep hbW hbW.size hbb)
        have bn := (Blk.new wr 32 #[.string (bA nx), .int .i64 d', .int .i64 y, .slice G ng cg]).alloc (.cells #[] 3)
        have bz := HB1.out.below hbb (by omega)
        have HBB := Lib.hid hbb
        have HBN := Lib.hid bn
        have HBZ := Lib.hid bz
        have hwr1 := hbW.size
        clear hba hbb bn bz hsz
        go_wp2_with
          (at_builtin
           refine wpList_append_flat flat_int rfl _ _ 30 rfl (wr.heap.size + 1) 3 i0 (.int .i64 0) 8 Tryd.underlying30 hi0 hz0 hz1 hz2 rfl _ _ _ rfl hown0 ts rfl hG3 (by omega) (by omega) (by simp) ?_
           intro v1 w1 hown hg1
           simp only [Nat.zero_add, List.nil_append, fm_int] at hown
           have hbd := ints_bd (hG.out _ hbW)
           have hV := own_new hown hbd
           have hsz := HSZ.out
           obtain ⟨V, cv, rfl, -, -⟩ := slice_inv hV
           have hb1 := (bstep hbW hbW.size HBB.out).grown hg1 (by simp; omega) (fun j hj => by have e : wr.heap.size + 1 = j := Option.some.inj hj; omega)
           have bn := HBN.out.grown hg1 (fun e => by have e : wr.heap.size = wr.heap.size + 1 := Option.some.inj e; omega)
           have bz := HBZ.out.grown hg1 (fun e => by have e : w.heap.size + 1 = wr.heap.size + 1 := Option.some.inj e; omega)
           have HV := Lib.hid hV
           have n0 : w1.cell? ⟨wr.heap.size, 0, none⟩ = some (.string (bA nx)) := bn.cell 0
           have n1 : w1.cell? ⟨wr.heap.size, 1, none⟩ = some (.int .i64 d') := bn.cell 1
           have n2 : w1.cell? ⟨wr.heap.size, 2, none⟩ = some (.int .i64 y) := bn.cell 2
           have n3 : w1.cell? ⟨wr.heap.size, 3, none⟩ = some (.slice G ng cg) := bn.cell 3
           have p3 := bn.free 3
           have z0 : w1.cell? ⟨w.heap.size + 1, 0, none⟩ = some (.string ⟨#[]⟩) := bz.cell 0
           have z1 : w1.cell? ⟨w.heap.size + 1, 1, none⟩ = some (.int .i64 0) := bz.cell 1
           have z2 : w1.cell? ⟨w.heap.size + 1, 2, none⟩ = some (.int .i64 0) := bz.cell 2
           have z3 : w1.cell? ⟨w.heap.size + 1, 3, none⟩ = some (.slice none 0 0) := bz.cell 3
           have o0 := bz.free 0
           have o1 := bz.free 1
           have o2 := bz.free 2
           have o3 := bz.free 3
           have hne : ¬ wr.heap.size = w.heap.size + 1 := by omega
           have hne2 : ¬ w.heap.size + 1 = wr.heap.size := by omega
           have HBZ1 := Lib.hid bz
           have HB1w := Lib.hid hb1
           clear hown hg1 hV hb1 bn bz hsz HBN HBZ HBB hown0 hG3 c0 d0 d1 d2 d3 f0 f1 f2 f3 k0 k1 k2 k3)
        have hsz := HSZ.out
        have hwW := hbW.size
        refine bodyPost_ret (results_rt (p := 4) (u := 5) (ty := 32) (vu := .bool true) rfl _ _ (w.heap.size + 1) 32 #[.string (bA nx), .int .i64 d', .int .i64 y, .slice V ts.length cv] (0, 0) _ rfl rfl (four_set (HBZ1.out.far (p := ⟨wr.heap.size, 3, none⟩) hne2 _)) Tryd.underlying32 rfl gr_size) rfl ⟨_, rfl, gr_mk ?_ hnx hi1 hi2, four_below (Below.setCell HB1w.out (p := ⟨wr.heap.size, 3, none⟩) hwW _) (by omega)⟩
        refine Rep.mono _ (D := fun b => wr.heap.size + 1 ≤ b ∧ b < w1.heap.size) (fun b hb => ?_) (Rep.keep _ (fun b hb => ?_) HV.out)
        · have := (four_below (g := w.heap.size + 1) (a' := .string (bA nx)) (b' := .int .i64 d') (c' := .int .i64 y) (d' := .slice V ts.length cv) ((Below.refl w.heap.size w1).setCell (p := ⟨wr.heap.size, 3, none⟩) hwW (.slice V ts.length cv)) (by omega)).size
          exact Nat.lt_of_lt_of_le hb.2 this
        · have hn1 : b ≠ w.heap.size + 1 := by have := hb.1; omega
          have hn2 : b ≠ wr.heap.size := by have := hb.1; omega
          rw [Below.heap_setCell _ _ _ _ hn1, Below.heap_setCell _ _ _ _ hn1, Below.heap_setCell _ _ _ _ hn1, Below.heap_setCell _ _ _ _ hn1, Below.heap_setCell _ _ _ _ hn2]
      · have q0 : (nx == nm) = false := by rw [str_eq]; exact decide_eq_false he
        have HP : Hid ((m.1.take (i + 1)).any (fun x => x.1 == nm) = false) := any_step hno.out hx.out q0
        clear he
        go_wp2
        go_roundw
        case rel => exact ⟨i + 1, by omega, by go_num, HP.out, trivial⟩
        case measure => simp [intOf]; omega
    · have hki : ¬ (i : Int) < (n : Int) := by omega
      have e1 : q = (([], 0, 0, []), false) := by
        rw [HQ.out]
        have := hno.out
        rw [List.take_of_length_le (by have := HN.out; omega)] at this
        exact grF_miss this
      subst e1
      clear HQ hno
      go_wp2
      exact bodyPost_ret (results_rt (p := 4) (u := 5) (ty := 32) (vu := .bool false) rfl _ _ (w.heap.size + 1) 32 #[.string ⟨#[]⟩, .int .i64 0, .int .i64 0, .slice none 0 0] (0, 0) _ rfl rfl (four_set HB1.out) Tryd.underlying32 rfl gr_size) rfl ⟨_, rfl, gr_mk (nm := []) (Rep.slice_nil _ _ _) (by decide) (d := 0) (y := 0) (by unfold inI64; decide) (by unfold inI64; decide), four_below hbW (by omega)⟩
set_option maxRecDepth 100000 in
set_option maxHeartbeats 4000000 in
theorem refSectionOf_any (A B : Option Addr) (n c k d : Nat) (m : Mat) (nm : List UInt8) (w : World) (hg : scR.slice.R w (Lt w) m.2 [.slice B k d]) :
    Calls Tryd.prog 18 #[.agg #[.slice A n c, .slice B k d], .string (bA nm)] w (SectPost (scF m nm).1 (scF m nm).2 w) := by
  obtain ⟨hn, hnm⟩ := slice_ln hg
  obtain ⟨q, hq⟩ : ∃ q, q = scF m nm := ⟨_, rfl⟩
  rw [← hq]
  have HQ := Lib.hid hq
  clear hq
  have hbW : Below w.heap.size w ((w.alloc (.cells #[.slice A n c, .slice B k d] 25)).alloc (.cells #[.string ⟨#[]⟩, .int .i64 0, .int .i64 0, .int .i64 0] 36)) := ((Below.refl w.heap.size w).alloc (Nat.le_refl _) _).alloc (by simp) _
  have b0 : Blk ((w.alloc (.cells #[.slice A n c, .slice B k d] 25)).alloc (.cells #[.string ⟨#[]⟩, .int .i64 0, .int .i64 0, .int .i64 0] 36)) w.heap.size 25 #[.slice A n c, .slice B k d] := (Blk.new w _ _).alloc _
  have b1 : Blk ((w.alloc (.cells #[.slice A n c, .slice B k d] 25)).alloc (.cells #[.string ⟨#[]⟩, .int .i64 0, .int .i64 0, .int .i64 0] 36)) (w.heap.size + 1) 36 #[.string ⟨#[]⟩, .int .i64 0, .int .i64 0, .int .i64 0] := by
    have := Blk.new (w.alloc (.cells #[.slice A n c, .slice B k d] 25)) 36 #[.string ⟨#[]⟩, .int .i64 0, .int .i64 0, .int .i64 0]
    simpa using this
  have HG := Lib.hid hg
  have HN := Lib.hid hn
  clear hg hn
  go_enter Tryd.func18, Tryd.ntmps18
  go_wp2
  generalize (w.alloc (.cells #[.slice A n c, .slice B k d] 25)).alloc (.cells #[.string ⟨#[]⟩, .int .i64 0, .int .i64 0, .int .i64 0] 36) = W at *
  have c0 := b0.c21
  have d0 : W.cell? ⟨w.heap.size + 1, 0, none⟩ = some (.string ⟨#[]⟩) := b1.cell 0
  have d1 : W.cell? ⟨w.heap.size + 1, 1, none⟩ = some (.int .i64 0) := b1.cell 1
  have d2 : W.cell? ⟨w.heap.size + 1, 2, none⟩ = some (.int .i64 0) := b1.cell 2
  have d3 : W.cell? ⟨w.heap.size + 1, 3, none⟩ = some (.int .i64 0) := b1.cell 3
  have f0 := b1.free 0
  have f1 := b1.free 1
  have f2 := b1.free 2
  have f3 := b1.free 3
  have HB1 := Lib.hid b1
  clear b0 b1
  go_loopw [6] (fun iv wr => ∃ i : Nat, i ≤ k ∧ iv = .int .i64 i ∧ Hid ((m.2.take i).any (fun x => x.1 == nm) = false) ∧ wr = W) (fun iv _ => k - (intOf iv).toNat)
  case atStart => exact ⟨0, Nat.zero_le _, rfl, rfl, rfl⟩
  case round =>
    obtain ⟨i, hi, rfl, hno, rfl⟩ := hrel
    by_cases hlt : i < k
    · have hki : (i : Int) < (k : Int) := by omega
      obtain ⟨b, off, nx, x, y, z, rfl, hx, hK, -⟩ := sc_all HG.out (k := i) (by rw [← HN.out]; exact hlt)
      obtain ⟨k0, k1, k2, k3⟩ := hK.out _ hbW
      by_cases he : nx = nm
      · subst he
        have e1 : q = ((nx, x, y, z), true) := by rw [HQ.out]; exact scF_hit hno.out hx.out (by simp)
        subst e1
        clear HQ
        have q0 : (nx == nx) = true := by simp
        go_wp2
        exact bodyPost_ret (results_rt (p := 4) (u := 5) (ty := 36) (vu := .bool true) rfl _ _ (w.heap.size + 1) 36 #[.string (bA nx), .int .i64 x, .int .i64 y, .int .i64 z] (0, 0) _ rfl rfl (four_set HB1.out) Tryd.underlying36 rfl sc_size) rfl ⟨rfl, four_below hbW (by omega)⟩
      · have q0 : (nx == nm) = false := by rw [str_eq]; exact decide_eq_false he
        have HP : Hid ((m.2.take (i + 1)).any (fun x => x.1 == nm) = false) := any_step hno.out hx.out q0
        clear he
        go_wp2
        go_roundw
        case rel => exact ⟨i + 1, by omega, by go_num, HP.out, trivial⟩
        case measure => simp [intOf]; omega
    · have hki : ¬ (i : Int) < (k : Int) := by omega
      have e1 : q = (([], 0, 0, 0), false) := by
        rw [HQ.out]
        have := hno.out
        rw [List.take_of_length_le (by have := HN.out; omega)] at this
        exact scF_miss this
      subst e1
      clear HQ hno
      go_wp2
      exact bodyPost_ret (results_rt (p := 4) (u := 5) (ty := 36) (vu := .bool false) rfl _ _ (w.heap.size + 1) 36 #[.string ⟨#[]⟩, .int .i64 0, .int .i64 0, .int .i64 0] (0, 0) _ rfl rfl (four_set HB1.out) Tryd.underlying36 rfl sc_size) rfl ⟨rfl, four_below hbW (by omega)⟩
set_option maxRecDepth 100000 in
set_option maxHeartbeats 4000000 in
theorem refRolled_any (A B : Option Addr) (n c k d : Nat) (m : Mat) (nm : List UInt8) (t : Int) (w : World) (hg : grR.slice.R w (Lt w) m.1 [.slice A n c]) (hts : ∀ g ∈ m.1, g.2.2.2.length ≤ 1000) :
    Calls Tryd.prog 21 #[.agg #[.slice A n c, .slice B k d], .string (bA nm), .int .i64 t] w (Ret (.bool (rolledF m nm t)) w) := by
  obtain ⟨r, hr⟩ : ∃ r, r = rolledF m nm t := ⟨_, rfl⟩
  rw [← hr]
  have hrr : r = (grF m nm).1.2.2.2.contains t := by
    rw [hr]
    unfold rolledF grF
    split <;> simp
  have HR := Lib.hid hrr
  have hbx := (Below.refl w.heap.size w).alloc (Nat.le_refl _) (.cells #[.slice A n c, .slice B k d] 25)
  have c0 : (w.alloc (.cells #[.slice A n c, .slice B k d] 25)).cell? ⟨w.heap.size, 0, none⟩ = some (.slice A n c) := (Blk.new w _ _).c20
  have c1 : (w.alloc (.cells #[.slice A n c, .slice B k d] 25)).cell? ⟨w.heap.size, 1, none⟩ = some (.slice B k d) := (Blk.new w _ _).c21
  have CG := Lib.hid (refGradeOf_any A B n c k d m nm _ (Rep.below hg hbx) hts)
  obtain ⟨q, hq⟩ : ∃ q, q = grF m nm := ⟨_, rfl⟩
  rw [← hq] at CG HR
  obtain ⟨⟨nx, d', y, ts⟩, b⟩ := q
  clear hr hrr hg hts hq
  go_enter Tryd.func21, Tryd.ntmps21
  go_wp2_with fail
  refine CG.out.mono ?_
  rintro e w1 ⟨a, rfl, ha, hb1⟩
  obtain ⟨G, cg, ea, hG, -, -, -, hgl⟩ := gr_inv ha
  have ea : a = #[.string (bA nx), .int .i64 d', .int .i64 y, .slice G ts.length cg] := Array.ext' (by simpa using ea)
  subst ea
  have hbw := bstep hbx hbx.size hb1
  have hb2 := hbw.alloc hbw.size (.cells #[.string (bA nx), .int .i64 d', .int .i64 y, .slice G ts.length cg] 32)
  have hG2 := Rep.below hG ((Below.refl w1.heap.size w1).alloc (Nat.le_refl _) (.cells #[.string (bA nx), .int .i64 d', .int .i64 y, .slice G ts.length cg] 32))
  have bn := Blk.new w1 32 #[.string (bA nx), .int .i64 d', .int .i64 y, .slice G ts.length cg]
  simp only at hG2 hgl
  clear ha CG hb1 c0 c1 hG
  go_wp2
  generalize w1.alloc (.cells #[.string (bA nx), .int .i64 d', .int .i64 y, .slice G ts.length cg] 32) = W at *
  have n3 : W.cell? ⟨w1.heap.size, 3, none⟩ = some (.slice G ts.length cg) := bn.cell 3
  have HG := Lib.hid hG2
  clear bn hG2
  go_loopw [9] (fun iv wr => ∃ i : Nat, i ≤ ts.length ∧ iv = .int .i64 i ∧ Hid (t ∉ ts.take i) ∧ wr = W) (fun iv _ => ts.length - (intOf iv).toNat)
  case atStart => exact ⟨0, Nat.zero_le _, rfl, by show t ∉ ts.take 0; simp, rfl⟩
  case round =>
    obtain ⟨i, hi, rfl, hno, rfl⟩ := hrel
    by_cases hlt : i < ts.length
    · have hki : (i : Int) < (ts.length : Int) := by omega
      obtain ⟨b', off, x, rfl, hx, -, k0, -, -⟩ := ints_at HG.out hlt
      by_cases hxt : x = t
      · subst hxt
        have e1 : r = true := by rw [HR.out]; simp [List.mem_of_getElem? hx.out]
        have q := beq_self_int x
        subst e1
        clear HR
        go_wp2
        go_ret
        exact ⟨rfl, hb2⟩
      · have q : (x == t) = false := ieq_f hxt
        have HN : Hid (t ∉ ts.take (i + 1)) := by
          show t ∉ ts.take (i + 1)
          rw [take_one hx.out]
          have := hno.out
          simp only [List.mem_append, List.mem_singleton, not_or]
          exact ⟨this, fun h => hxt h.symm⟩
        clear hxt
        go_wp2
        go_roundw
        case rel => exact ⟨i + 1, by omega, by go_num, HN.out, trivial⟩
        case measure => simp [intOf]; omega
    · have hki : ¬ (i : Int) < (ts.length : Int) := by omega
      have e1 : r = false := by
        have := hno.out
        rw [List.take_of_length_le (by omega)] at this
        rw [HR.out]
        simpa using this
      subst e1
      clear HR
      go_wp2
      go_ret
      exact ⟨rfl, hb2⟩
end Go.Proofs.YtacbmmnipedpdaaDoor

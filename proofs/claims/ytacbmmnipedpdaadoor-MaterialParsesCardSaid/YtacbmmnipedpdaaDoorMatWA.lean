/- Chapter 15: Section and Rolled of material, by walking their text. -/
import Derived.Test.YtacbmmnipedpdaaDoorMatW9
namespace Go.Proofs.YtacbmmnipedpdaaDoor
open Go Go.RowKit

def scC (s : Sc) : Array Value := #[.string (bA s.1), .int .i64 s.2.1, .int .i64 s.2.2.1, .int .i64 s.2.2.2]
def SectPost (s : Sc) (b : Bool) (w : World) (e : Ending) (w' : World) : Prop := e = .returned (.tuple #[.agg (scC s), .bool b]) ∧ Below w.heap.size w w'
set_option maxRecDepth 100000 in
set_option maxHeartbeats 4000000 in
theorem matSectionOf_any (A B : Option Addr) (n c k d : Nat) (m : Mat) (nm : List UInt8) (w : World) (hg : scR.slice.R w (Lt w) m.2 [.slice B k d]) :
    Calls Tryd.prog 17 #[.agg #[.slice A n c, .slice B k d], .string (bA nm)] w (SectPost (scF m nm).1 (scF m nm).2 w) := by
  obtain ⟨hn, hnm⟩ := slice_ln hg
  obtain ⟨q, hq⟩ : ∃ q, q = scF m nm := ⟨_, rfl⟩
  rw [← hq]
  have HQ := Lib.hid hq
  clear hq
  have hmf : ∀ (fn : Fn) (first cap : Array Value) (w : World), (Instr.makeFunc fn first cap).run Tryd.prog w = .ok (.func fn first cap) w := fun _ _ _ _ => rfl
  obtain ⟨W, hW⟩ : ∃ W, W = ((w.alloc (.cells #[.slice A n c, .slice B k d] 25)).alloc (.cells #[.string (bA nm)] 9)).alloc (.cells #[.string ⟨#[]⟩, .int .i64 0, .int .i64 0, .int .i64 0] 36) := ⟨_, rfl⟩
  have hbW : Below w.heap.size w W := by
    rw [hW]; exact ((((Below.refl w.heap.size w).alloc (Nat.le_refl _) _).alloc (by simp) _).alloc (by simp; omega) _)
  have b0 : Blk W w.heap.size 25 #[.slice A n c, .slice B k d] := by rw [hW]; exact ((Blk.new w _ _).alloc _).alloc _
  have b1 : Blk W (w.heap.size + 1) 9 #[.string (bA nm)] := by
    have := (Blk.new (w.alloc (.cells #[.slice A n c, .slice B k d] 25)) 9 #[.string (bA nm)]).alloc (.cells #[.string ⟨#[]⟩, .int .i64 0, .int .i64 0, .int .i64 0] 36)
    rw [hW]; simpa using this
  have b2 : Blk W (w.heap.size + 1 + 1) 36 #[.string ⟨#[]⟩, .int .i64 0, .int .i64 0, .int .i64 0] := by
    have := Blk.new ((w.alloc (.cells #[.slice A n c, .slice B k d] 25)).alloc (.cells #[.string (bA nm)] 9)) 36 #[.string ⟨#[]⟩, .int .i64 0, .int .i64 0, .int .i64 0]
    rw [hW]; simpa using this
  have hsz : W.heap.size = w.heap.size + 3 := by rw [hW]; simp
  have CF := Lib.hid (findSection_any B k d (w.heap.size + 1) m.2 nm W (Rep.below hg hbW) b1)
  have HW := Lib.hid hW
  have HG := Lib.hid hg
  have HB := Lib.hid (And.intro b0 (And.intro b1 b2))
  have HSZ := Lib.hid hsz
  have c0 : (((w.alloc (.cells #[.slice A n c, .slice B k d] 25)).alloc (.cells #[.string (bA nm)] 9)).alloc (.cells #[.string ⟨#[]⟩, .int .i64 0, .int .i64 0, .int .i64 0] 36)).cell? ⟨w.heap.size, 1, none⟩ = some (.slice B k d) := by rw [← hW]; exact b0.c21
  have HN := Lib.hid hn
  clear hW hg b0 b1 b2 hn hsz
  go_enter Tryd.func17, Tryd.ntmps17
  go_wp2_with fail
  rw [← HW.out]
  refine CF.out.mono ?_
  rintro e w1 ⟨i, rfl, hi, hb1⟩
  obtain ⟨b0, b1, b2⟩ := HB.out
  have hsz := HSZ.out
  have hbw := bstep hbW hbW.size hb1
  have b0 := b0.below hb1 (by omega)
  have b2 := b2.below hb1 (by omega)
  have hz1 := hb1.size
  have hzl : w.heap.size + 1 + 1 < w1.heap.size := by omega
  have c0 : w1.cell? ⟨w.heap.size, 1, none⟩ = some (.slice B k d) := b0.c21
  have d0 : w1.cell? ⟨w.heap.size + 1 + 1, 0, none⟩ = some (.string ⟨#[]⟩) := b2.cell 0
  have d1 : w1.cell? ⟨w.heap.size + 1 + 1, 1, none⟩ = some (.int .i64 0) := b2.cell 1
  have d2 : w1.cell? ⟨w.heap.size + 1 + 1, 2, none⟩ = some (.int .i64 0) := b2.cell 2
  have d3 : w1.cell? ⟨w.heap.size + 1 + 1, 3, none⟩ = some (.int .i64 0) := b2.cell 3
  have f0 := b2.free 0
  have f1 := b2.free 1
  have f2 := b2.free 2
  have f3 := b2.free 3
  have HB2 := Lib.hid b2
  clear CF HW HB HSZ b0 b1 b2 hb1 hz1 hsz hbW
  rcases hi.out with ⟨rfl, hf⟩ | ⟨j, g, rfl, hj, hgj, hf⟩
  · have e1 : q = (([], 0, 0, 0), false) := by rw [HQ.out]; unfold scF; rw [hf]
    subst e1
    clear hi hf HQ
    go_wp2
    exact bodyPost_ret (results_rt (p := 4) (u := 5) (ty := 36) (vu := .bool false) rfl _ _ (w.heap.size + 1 + 1) 36 #[.string ⟨#[]⟩, .int .i64 0, .int .i64 0, .int .i64 0] (0, 0) _ rfl rfl (four_set HB2.out) Tryd.underlying36 rfl sc_size) rfl ⟨rfl, four_below hbw (by omega)⟩
  · have e1 : q = (g, true) := by rw [HQ.out]; unfold scF; rw [hf]
    subst e1
    clear hi hf HQ
    obtain ⟨b, off, nx, x, y, z, rfl, hx, hK, -⟩ := sc_all HG.out (k := j) hj
    have := hx.out.symm.trans hgj
    injection this with this
    subst this
    obtain ⟨k0, k1, k2, k3⟩ := hK.out _ hbw
    have hj0 : ¬ (j : Int) < 0 := by omega
    have hjn : (j : Int) < (k : Int) := by have := HN.out; omega
    clear hgj
    go_wp2
    exact bodyPost_ret (results_rt (p := 4) (u := 5) (ty := 36) (vu := .bool true) rfl _ _ (w.heap.size + 1 + 1) 36 #[.string (bA nx), .int .i64 x, .int .i64 y, .int .i64 z] (0, 0) _ rfl rfl (four_set HB2.out) Tryd.underlying36 rfl sc_size) rfl ⟨rfl, four_below hbw (by omega)⟩
set_option maxRecDepth 100000 in
set_option maxHeartbeats 4000000 in
theorem matRolled_any (A B : Option Addr) (n c k d : Nat) (m : Mat) (nm : List UInt8) (t : Int) (w : World) (hg : grR.slice.R w (Lt w) m.1 [.slice A n c]) (hts : ∀ g ∈ m.1, g.2.2.2.length ≤ 1000) :
    Calls Tryd.prog 20 #[.agg #[.slice A n c, .slice B k d], .string (bA nm), .int .i64 t] w (Ret (.bool (rolledF m nm t)) w) := by
  obtain ⟨r, hr⟩ : ∃ r, r = rolledF m nm t := ⟨_, rfl⟩
  rw [← hr]
  have HR : Hid (r = ((grF m nm).2 && (grF m nm).1.2.2.2.contains t)) := hr
  have hbx := (Below.refl w.heap.size w).alloc (Nat.le_refl _) (.cells #[.slice A n c, .slice B k d] 25)
  have c0 : (w.alloc (.cells #[.slice A n c, .slice B k d] 25)).cell? ⟨w.heap.size, 0, none⟩ = some (.slice A n c) := (Blk.new w _ _).c20
  have c1 : (w.alloc (.cells #[.slice A n c, .slice B k d] 25)).cell? ⟨w.heap.size, 1, none⟩ = some (.slice B k d) := (Blk.new w _ _).c21
  have CG := Lib.hid (matGradeOf_any A B n c k d m nm _ (Rep.below hg hbx) hts)
  obtain ⟨q, hq⟩ : ∃ q, q = grF m nm := ⟨_, rfl⟩
  rw [← hq] at CG HR
  obtain ⟨⟨nx, d', y, ts⟩, b⟩ := q
  clear hr hg hts hq
  go_enter Tryd.func20, Tryd.ntmps20
  go_wp2_with fail
  refine CG.out.mono ?_
  rintro e w1 ⟨a, rfl, ha, hb1⟩
  obtain ⟨G, cg, ea, hG, -, -, -, hgl⟩ := gr_inv ha
  have ea : a = #[.string (bA nx), .int .i64 d', .int .i64 y, .slice G ts.length cg] := Array.ext' (by simpa using ea)
  subst ea
  have hbw := bstep hbx hbx.size hb1
  simp only at hG hgl
  clear ha CG hb1 c0 c1
  have hb2 := hbw.alloc hbw.size (.cells #[.string (bA nx), .int .i64 d', .int .i64 y, .slice G ts.length cg] 32)
  have C2 := Lib.hid (containsInt_any _ ts t _ (Rep.below hG ((Below.refl w1.heap.size w1).alloc (Nat.le_refl _) (.cells #[.string (bA nx), .int .i64 d', .int .i64 y, .slice G ts.length cg] 32))))
  cases b
  · have e1 : r = false := HR.out
    subst e1
    go_wp2
    go_ret
    exact ⟨rfl, hb2⟩
  · have e1 : r = ts.contains t := by rw [HR.out]; rfl
    have HE := Lib.hid e1
    clear HR e1
    go_wp2_with fail
    refine C2.out.mono ?_
    rintro e w2 ⟨he, rfl⟩
    rw [← HE.out] at he
    subst he
    go_wp2
    go_ret
    exact ⟨rfl, hb2⟩
end Go.Proofs.YtacbmmnipedpdaaDoor

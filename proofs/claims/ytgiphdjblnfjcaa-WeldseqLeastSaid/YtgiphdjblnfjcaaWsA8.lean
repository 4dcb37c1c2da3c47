/- Chapter 34: the search of the reference's Best, by walking its text. -/
import Derived.Test.YtgiphdjblnfjcaaWsA7
namespace Go.Proofs.Ytgiphdjblnfjcaa
open Go Go.RowKit

def xCells (vl vb vo : Value) (reach stiff : Int) (s : Sr) : Array Value := #[vl, .int .i64 reach, .int .i64 stiff, vb, vo, .int .i64 s.least, .bool s.found]
structure Sx (g : Nat) (vl vb : Value) (l : List Bead) (reach stiff : Int) (before : List (Int × Int)) (w : World) (s : Sr) : Prop where
  blk : ∃ vo, Blk w g 61 (xCells vl vb vo reach stiff s) ∧ Rep.int.slice.R w (Ok3 g g g w) s.ord [vo]
  rl : beadR.slice.R w (Ok3 g g g w) l [vl]
  rb : prR.slice.R w (Ok3 g g g w) before [vb]
section
variable {g : Nat} {vl vb : Value} {l : List Bead} {reach stiff : Int} {before : List (Int × Int)} {w w' : World} {s s' : Sr}
theorem Sx.next (h : Sx g vl vb l reach stiff before w s) (hk : Kept g g g w w') (h3 : ∃ vo, Blk w' g 61 (xCells vl vb vo reach stiff s') ∧ Rep.int.slice.R w' (Ok3 g g g w') s'.ord [vo]) : Sx g vl vb l reach stiff before w' s' :=
  ⟨h3, hk.rep h.rl, hk.rep h.rb⟩
theorem Sx.below (h : Sx g vl vb l reach stiff before w s) (hb : Below w.heap.size w w') : Sx g vl vb l reach stiff before w' s :=
  h.next (Kept.of hb) (by
    obtain ⟨vo, h1, h2⟩ := h.blk
    exact ⟨vo, h1.below hb h1.lt, (Kept.of hb).rep h2⟩)
def ExplorePost (g : Nat) (vl vb : Value) (l : List Bead) (reach stiff : Int) (before : List (Int × Int)) (w : World) (s' : Sr) (e : Ending) (w' : World) : Prop :=
  e = .returned (.tuple #[]) ∧ Kept g g g w w' ∧ Sx g vl vb l reach stiff before w' s'
theorem ExplorePost.of {s'' : Sr} (hs : s'' = s') (hk : Kept g g g w w') (h : Sx g vl vb l reach stiff before w' s') : ExplorePost g vl vb l reach stiff before w s'' (.returned (.tuple #[])) w' := ⟨rfl, hk, by rw [hs]; exact h⟩
end
set_option maxRecDepth 100000 in
set_option maxHeartbeats 2000000 in
theorem explore_any (g : Nat) (vl vb : Value) (l : List Bead) (reach stiff : Int) (before : List (Int × Int)) (hC : checkF l reach stiff = 0) :
    ∀ (f : Nat) (v : Value) (b : List Int) (so : Int) (s : Sr) (w : World), b.length + f = l.length + 1 → Beg l.length b → Sx g vl vb l reach stiff before w s → Rep.int.slice.R w (Ok3 g g g w) b [v] →
      Calls Try.prog 34 #[.pointer (some ⟨g, 0, none⟩), v, .int .i64 so] w
        (ExplorePost g vl vb l reach stiff before w (searchF (unevB l reach stiff) before l.length f s b so)) := by
  intro f
  induction f with
  | zero => intro v b so s w hf hB; have := hB.len; omega
  | succ f ih =>
    have IH := Lib.hid ih
    clear ih
    intro v b so s w hf hB hst hv
    obtain ⟨F, cv, rfl, hmv, -⟩ := slice_inv hv
    obtain ⟨A, c, rfl, hml, -⟩ := slice_inv hst.rl
    obtain ⟨B, d, rfl, hmb, -⟩ := slice_inv hst.rb
    have h32 := (checkF_ok hC).1
    have HC := Lib.hid hC
    have HF := Lib.hid hf
    have hBl := hB.len
    obtain ⟨vo, hg, hro⟩ := hst.blk
    obtain ⟨O, co, rfl, -, -⟩ := slice_inv hro
    have k0 := hg.cell 0
    have k3 := hg.cell 3
    have k4 := hg.cell 4
    have k5 := hg.cell 5
    have k6 := hg.cell 6
    have f4 := hg.free 4
    have f5 := hg.free 5
    have f6 := hg.free 6
    simp only [xCells, List.getElem?_toArray, List.getElem?_cons_zero, List.getElem?_cons_succ] at k0 k3 k4 k5 k6
    rcases Bool.eq_false_or_eq_true (s.found && decide (s.least ≤ so)) with hcut | hcut
    · have HS := Lib.hid (search_cut (U := unevB l reach stiff) (before := before) (n := l.length) (f := f) (b := b) hcut)
      rw [Bool.and_eq_true, decide_eq_true_eq] at hcut
      obtain ⟨hc1, hc2⟩ := hcut
      rw [hc1] at k6
      clear hc1
      go_enter Try.func34, Try.ntmps34
      go_wp2
      go_end0
      exact ExplorePost.of HS.out (Kept.refl _ _ _ _) hst
    · have hcut' : s.found = false ∨ (s.found = true ∧ ¬ s.least ≤ so) := by
        rcases Bool.eq_false_or_eq_true s.found with h | h
        · right; refine ⟨h, ?_⟩; rw [h] at hcut; simpa using hcut
        · exact .inl h
      by_cases hbn : b.length = l.length
      · have HS := Lib.hid (search_end (U := unevB l reach stiff) (before := before) (f := f) hcut hbn)
        have hbe : ((b.length : Int) == (l.length : Int)) = true := by simp [hbn]
        clear hcut hbn
        rcases hcut' with hc | ⟨hc, hc2⟩
        all_goals
          rw [hc] at k6
          clear hc
          go_enter Try.func34, Try.ntmps34
          go_wp2
          go_end0
          have hk := (((Kept.refl g g g w).set (p := ⟨g, 4, none⟩) (.inl rfl) (.slice F b.length cv)).set (p := ⟨g, 5, none⟩) (.inl rfl) (.int .i64 so)).set (p := ⟨g, 6, none⟩) (.inl rfl) (.bool true)
          exact ExplorePost.of HS.out hk (hst.next hk ⟨_, ((hg.set_ 4 (.slice F b.length cv)).set_ 5 (.int .i64 so)).set_ 6 (.bool true), hk.rep hv⟩)
      · have HS := Lib.hid (search_fold (U := unevB l reach stiff) (before := before) (f := f) hcut hbn)
        have hbe : ((b.length : Int) == (l.length : Int)) = false := ieq_f (by omega)
        have hbl : b.length < l.length := by omega
        obtain ⟨i0, hi, hz0, hz1, hz2⟩ := info_parts int_info
        clear hcut hbn
        rcases hcut' with hc | ⟨hc, hc2⟩
        all_goals
          rw [hc] at k6
          clear hc
          go_enter Try.func34, Try.ntmps34
          go_wp2
          clear k0 k3 k4 k5 k6 f4 f5 f6 hg hro
          go_loopw [6] (fun i wr => ∃ k : Nat, k ≤ l.length ∧ i = .int .i64 k ∧ Kept g g g w wr ∧ Sx g (.slice A l.length c) (.slice B before.length d) l reach stiff before wr (foldTo (unevB l reach stiff) before l.length f b so s k)) (fun i _ => l.length - (intOf i).toNat)
          case atStart => exact ⟨0, Nat.zero_le _, rfl, Kept.refl _ _ _ _, hst⟩
          case round =>
            obtain ⟨k, hk, rfl, hkw, hsr⟩ := hrel
            have hvr := hkw.rep hv
            obtain ⟨vo, hg, -⟩ := hsr.blk
            have k0 := hg.cell 0
            have k3 := hg.cell 3
            simp only [xCells, List.getElem?_toArray, List.getElem?_cons_zero, List.getElem?_cons_succ] at k0 k3
            by_cases hkl : k < l.length
            · rcases Bool.eq_false_or_eq_true (freeB before b (k : Int)) with hf | hf
              · have HSN := Lib.hid (hB.snoc hkl (freeB_not hf))
                have HT := Lib.hid (foldTo_free (U := unevB l reach stiff) (n := l.length) (f := f) (so := so) (s := s) hf)
                have HBI : Hid (∀ x ∈ b ++ [(k : Int)], inI64 x) := fun x hx => by have := HSN.out.rng x hx; unfold inI64; omega
                generalize hfb : freeB before b (k : Int) = fb at *
                subst hf
                have HFB := Lib.hid hfb
                clear hfb
                go_wp2_with fail
                refine (refFree_any _ _ before b _ _ (rep_lt hsr.rb) (rep_lt hvr)).mono ?_
                rintro e w3 ⟨he, hq3⟩
                rw [HFB.out] at he
                subst he
                have hb3 := hq3.below (wr.heap.size)
                have hs3 := hsr.below hb3
                have hk3 := hkw.trans (Kept.of hb3)
                have hv3 := (Kept.of (a := g) (b := g) (c := g) hb3).rep hvr
                have hg3 := hg.below hb3 hg.lt
                have hlt3 := hg3.lt
                clear hb3 k0 k3 hq3 hg
                have hown0 := made_int w3
                have hr0 : Rep.int.slice.R (w3.alloc (.cells #[] 3)) (Lt _) b [.slice F b.length cv] := Rep.below (rep_lt hv3) ((Below.refl _ _).alloc (Nat.le_refl _) _)
                go_wp2_with (first
                  | (at_builtin; refine wpList_append_flat flat_int rfl _ _ 28 rfl w3.heap.size 3 i0 (.int .i64 0) 8 Try.underlying28 hi hz0 hz1 hz2 rfl (.slice (some ⟨w3.heap.size, 0, none⟩) 0 0) 0 [] rfl hown0 b rfl hr0 (by omega) (by omega) (by simp) ?_; intro v1 w5 hown1 hg1; have hw5 : Below w3.heap.size w3 w5 := grown_below ((Below.refl _ _).alloc (Nat.le_refl _) _) hg1 (by simp) (Nat.le_refl _); have hown1 := ap_own hown1; have hz5 := hw5.size)
                  | (at_builtin; refine wpList_append_own _ rfl _ _ 28 rfl w3.heap.size 3 i0 (.int .i64 0) 1 8 Try.underlying28 hi hz0 hz1 hz2 rfl (by decide) _ _ _ rfl (World.ownsRow.alloc hown1 _) ⟨w5.heap.size, 0, none⟩ 1 1 [.int .i64 k] rfl rfl (new1_cells _ _ _) (one_oneCell rfl) (by unfold maxLen; omega) (by omega) (by simp; omega) ?_; intro v6 w6 hown6 hg6 _))
                have hw6 : Below w3.heap.size w3 w6 := (hw5.alloc hz5 _).grown hg6 (by simp; omega) (fun j hj => (World.ownsRow.lt hown1 j hj).1)
                have hs6 := hs3.below hw6
                have hk6 := hk3.trans (Kept.of hw6)
                obtain ⟨A6, c6, rfl⟩ := own_slice hown6
                have hv6 : Rep.int.slice.R w6 (Ok3 g g g w6) (b ++ [(k : Int)]) _ := rep_new (own_intsD (ownI_snoc hown6) HBI.out) ⟨hlt3, hlt3, hlt3⟩
                have hsd := hs6.below ((Below.refl w6.heap.size w6).drew)
                have hkd := hk6.trans (Kept.of ((Below.refl w6.heap.size w6).drew))
                have hvd := (Kept.of (a := g) (b := g) (c := g) ((Below.refl w6.heap.size w6).drew)).rep hv6
                have hg6 := hg3.below hw6 hlt3
                have hlt6 := hg6.lt
                have q0 := hg6.cell 0
                have q1 := hg6.cell 1
                have q2 := hg6.cell 2
                simp only [xCells, List.getElem?_toArray, List.getElem?_cons_zero, List.getElem?_cons_succ] at q0 q1 q2
                clear hv6 hown6 hown1 hown0 hg1 hw5 hg3 hs3 hk3 hv3 hr0
                go_wp2
                go_region_held3 (fun W => W.cell? ⟨g, 0, none⟩ = some (.slice A l.length c) ∧ W.cell? ⟨g, 1, none⟩ = some (.int .i64 reach) ∧ W.cell? ⟨g, 2, none⟩ = some (.int .i64 stiff))
                  (first
                    | exact ⟨q0, q1, q2⟩
                    | exact r7
                    | exact ⟨(hb7.cell (p := ⟨g, 0, none⟩) hlt6).trans q0, (hb7.cell (p := ⟨g, 1, none⟩) hlt6).trans q1, (hb7.cell (p := ⟨g, 2, none⟩) hlt6).trans q2⟩)
                  (first
                    | ((go_at_call 31
                        refine (refUnev_any _ _ l reach stiff (b ++ [(k : Int)]) _ (rep_lt hsd.rl) (rep_lt hvd) HC.out HSN.out (by omega)).mono ?_
                        rintro e w7 ⟨rfl, hb7⟩
                        have hs7 := hsd.below hb7
                        have hk7 := hkd.trans (Kept.of hb7)
                        have hv7 := (Kept.of (a := g) (b := g) (c := g) hb7).rep hvd))
                    | ((go_at_call 34
                        refine (IH.out _ (b ++ [(k : Int)]) _ _ _ (by have := HF.out; simp; omega) HSN.out hs7 hv7).mono ?_
                        rintro e w8 ⟨rfl, hk8, hs8⟩
                        obtain ⟨vo8, hg8, -⟩ := id hs8.blk
                        have r7 : w8.cell? ⟨g, 0, none⟩ = some (.slice A l.length c) ∧ w8.cell? ⟨g, 1, none⟩ = some (.int .i64 reach) ∧ w8.cell? ⟨g, 2, none⟩ = some (.int .i64 stiff) := ⟨hg8.cell 0, hg8.cell 1, hg8.cell 2⟩)))
                rw [← HT.out] at hs8
                go_wp2
                go_roundw
                case rel => exact ⟨k + 1, by omega, by go_num, hk7.trans hk8, hs8⟩
                case measure => simp [intOf]; omega
              · have HT := Lib.hid (foldTo_no (U := unevB l reach stiff) (n := l.length) (f := f) (so := so) (s := s) hf)
                generalize hfb : freeB before b (k : Int) = fb at *
                subst hf
                have HFB := Lib.hid hfb
                clear hfb
                go_wp2_with fail
                refine (refFree_any _ _ before b _ _ (rep_lt hsr.rb) (rep_lt hvr)).mono ?_
                rintro e w3 ⟨he, hq3⟩
                rw [HFB.out] at he
                subst he
                have hb3 := hq3.below (wr.heap.size)
                have hs3 := hsr.below hb3
                have hk3 := hkw.trans (Kept.of hb3)
                clear hb3 k0 k3 hq3
                go_wp2
                go_roundw
                case rel => exact ⟨k + 1, by omega, by go_num, hk3, by rw [HT.out]; exact hs3⟩
                case measure => simp [intOf]; omega
            · obtain rfl : k = l.length := by omega
              go_wp2
              go_end0
              exact ExplorePost.of HS.out hkw hsr
end Go.Proofs.Ytgiphdjblnfjcaa

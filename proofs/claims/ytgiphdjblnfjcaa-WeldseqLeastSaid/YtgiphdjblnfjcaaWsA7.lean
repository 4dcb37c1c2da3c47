/- Chapter 34: the search of Best, by walking the program's text. -/
import Derived.Test.YtgiphdjblnfjcaaWsA6
namespace Go.Proofs.Ytgiphdjblnfjcaa
open Go Go.RowKit

def SearchPost (pf pu pl po pp ps g : Nat) (vl vb : Value) (l : List Bead) (reach stiff : Int) (before : List (Int × Int)) (w : World) (s' : Sr) (e : Ending) (w' : World) : Prop :=
  e = .returned (.tuple #[]) ∧ Kept pf pu po w w' ∧ St pf pu pl po pp ps g vl vb l reach stiff before w' s'
theorem SearchPost.of {pf pu pl po pp ps g : Nat} {vl vb : Value} {l : List Bead} {reach stiff : Int} {before : List (Int × Int)} {w w' : World} {s' s'' : Sr} (hs : s'' = s') (hk : Kept pf pu po w w') (h : St pf pu pl po pp ps g vl vb l reach stiff before w' s') :
    SearchPost pf pu pl po pp ps g vl vb l reach stiff before w s'' (.returned (.tuple #[])) w' := ⟨rfl, hk, by rw [hs]; exact h⟩
set_option maxRecDepth 100000 in
set_option maxHeartbeats 2000000 in
theorem search_any (pf pu pl po pp ps g : Nat) (vl vb : Value) (l : List Bead) (reach stiff : Int) (before : List (Int × Int)) (ha : Apart pf pu pl po pp ps g) (hC : checkF l reach stiff = 0) :
    ∀ (f : Nat) (v : Value) (b : List Int) (so : Int) (s : Sr) (w : World), b.length + f = l.length + 1 → Beg l.length b → St pf pu pl po pp ps g vl vb l reach stiff before w s → Rep.int.slice.R w (Ok3 pf pu po w) b [v] →
      Calls Try.prog 32 #[v, .int .i64 so, .pointer (some ⟨pf, 0, none⟩), .pointer (some ⟨pu, 0, none⟩), .pointer (some ⟨pl, 0, none⟩), .pointer (some ⟨po, 0, none⟩), .pointer (some ⟨pp, 0, none⟩), .pointer (some ⟨ps, 0, none⟩)] w
        (SearchPost pf pu pl po pp ps g vl vb l reach stiff before w (searchF (unevB l reach stiff) before l.length f s b so)) := by
  intro f
  induction f with
  | zero => intro v b so s w hf hB; have := hB.len; omega
  | succ f ih =>
    have IH := Lib.hid ih
    clear ih
    intro v b so s w hf hB hst hv
    obtain ⟨F, cv, rfl, hmv, -⟩ := slice_inv hv
    obtain ⟨A, c, rfl, hml, -⟩ := slice_inv hst.rl
    have h32 := (checkF_ok hC).1
    have HC := Lib.hid hC
    have HF := Lib.hid hf
    have hBl := hB.len
    have k0 := hst.found.c0
    have k1 := hst.least.c0
    have k2 := hst.lcell.c0
    rcases Bool.eq_false_or_eq_true (s.found && decide (s.least ≤ so)) with hcut | hcut
    · have HS := Lib.hid (search_cut (U := unevB l reach stiff) (before := before) (n := l.length) (f := f) (b := b) hcut)
      rw [Bool.and_eq_true, decide_eq_true_eq] at hcut
      obtain ⟨hc1, hc2⟩ := hcut
      rw [hc1] at k0
      clear hc1 k2
      go_enter Try.func32, Try.ntmps32
      go_wp2
      go_end0
      exact SearchPost.of HS.out (Kept.refl _ _ _ _) hst
    · have hcut' : s.found = false ∨ (s.found = true ∧ ¬ s.least ≤ so) := by
        rcases Bool.eq_false_or_eq_true s.found with h | h
        · right; refine ⟨h, ?_⟩; rw [h] at hcut; simpa using hcut
        · exact .inl h
      by_cases hbn : b.length = l.length
      · have HS := Lib.hid (search_end (U := unevB l reach stiff) (before := before) (f := f) hcut hbn)
        have hbe : ((b.length : Int) == (l.length : Int)) = true := by simp [hbn]
        have HBN := Lib.hid hbn
        have HBI := Lib.hid (ints_bd hv)
        obtain ⟨vo, ho, hro⟩ := hst.ord
        clear hcut hbn
        rcases hcut' with hc | ⟨hc, hc2⟩
        all_goals
          rw [hc] at k0
          clear hc
          go_enter Try.func32, Try.ntmps32
          go_wp2_with fail
          refine (clone_any _ b _ (rep_lt hv) (by omega)).mono ?_
          rintro e w1 ⟨v1, rfl, hown, hb1⟩
          obtain ⟨A1, c1, rfl⟩ := own_slice hown
          have ho1 := ho.below hb1 ho.lt
          have hu1 := hst.least.below hb1 hst.least.lt
          have hf1 := hst.found.below hb1 hst.found.lt
          have k3 := ho1.c0
          have f3 := ho1.free 0
          have f1 := hu1.free 0
          have f0 := hf1.free 0
          have k1' := hu1.c0
          have k0' := hf1.c0
          have n1 : pf ≠ pu := ha.1.1
          have n2 : pf ≠ po := ha.1.2.1
          have n3 : pu ≠ po := ha.1.2.2
          go_wp2
          go_end0
          have hr1 := rep_new (a := pf) (b := pu) (c := po) (own_intsD hown HBI.out) ⟨hst.found.lt, hst.least.lt, ho.lt⟩
          have hk := (((Kept.of (a := pf) (b := pu) (c := po) hb1).set (p := ⟨po, 0, none⟩) (.inr (.inr rfl)) (.slice A1 b.length c1)).set (p := ⟨pu, 0, none⟩) (.inr (.inl rfl)) (.int .i64 so)).set (p := ⟨pf, 0, none⟩) (.inl rfl) (.bool true)
          have hk1 := (((Kept.refl pf pu po w1).set (p := ⟨po, 0, none⟩) (.inr (.inr rfl)) (.slice A1 b.length c1)).set (p := ⟨pu, 0, none⟩) (.inr (.inl rfl)) (.int .i64 so)).set (p := ⟨pf, 0, none⟩) (.inl rfl) (.bool true)
          exact SearchPost.of HS.out hk (hst.next ha hk (((hf1.far (p := ⟨po, 0, none⟩) n2 _).far (p := ⟨pu, 0, none⟩) n1 _).set_ 0 _) (((hu1.far (p := ⟨po, 0, none⟩) n3 _).set_ 0 _).far (p := ⟨pf, 0, none⟩) n1.symm _)
            ⟨_, ((ho1.set_ 0 _).far (p := ⟨pu, 0, none⟩) n3.symm _).far (p := ⟨pf, 0, none⟩) n2.symm _, hk1.rep hr1⟩)
      · have HS := Lib.hid (search_fold (U := unevB l reach stiff) (before := before) (f := f) hcut hbn)
        have hbe : ((b.length : Int) == (l.length : Int)) = false := ieq_f (by omega)
        have hbl : b.length < l.length := by omega
        clear hcut hbn
        rcases hcut' with hc | ⟨hc, hc2⟩
        all_goals
          rw [hc] at k0
          clear hc
          go_enter Try.func32, Try.ntmps32
          go_wp2
          clear k0 k1 k2
          go_loopw [28] (fun i wr => ∃ k : Nat, k ≤ l.length ∧ i = .int .i64 k ∧ Kept pf pu po w wr ∧ St pf pu pl po pp ps g (.slice A l.length c) vb l reach stiff before wr (foldTo (unevB l reach stiff) before l.length f b so s k)) (fun i _ => l.length - (intOf i).toNat)
          case atStart => exact ⟨0, Nat.zero_le _, rfl, Kept.refl _ _ _ _, hst⟩
          case round =>
            obtain ⟨k, hk, rfl, hkw, hsr⟩ := hrel
            have hvr := hkw.rep hv
            by_cases hkl : k < l.length
            · have kp := hsr.pcell.c0
              rcases Bool.eq_false_or_eq_true (freeB before b (k : Int)) with hf | hf
              · have HSN := Lib.hid (hB.snoc hkl (freeB_not hf))
                have HT := Lib.hid (foldTo_free (U := unevB l reach stiff) (n := l.length) (f := f) (so := so) (s := s) hf)
                generalize hfb : freeB before b (k : Int) = fb at *
                subst hf
                have HFB := Lib.hid hfb
                clear hfb
                go_wp2_with fail
                refine (free_any g _ _ _ reach stiff _ before b _ _ hsr.pan (rep_lt hsr.rb) (rep_lt hvr)).mono ?_
                rintro e w3 ⟨he, hb3⟩
                rw [HFB.out] at he
                subst he
                have hs3 := hsr.below ha hb3
                have hk3 := hkw.trans (Kept.of hb3)
                have hv3 := (Kept.of (a := pf) (b := pu) (c := po) hb3).rep hvr
                clear hb3 kp
                go_wp2_with fail
                refine (with_own _ b _ _ (rep_lt hv3) (by omega)).mono ?_
                rintro e w4 ⟨v4, rfl, hown, hb4⟩
                have hs4 := hs3.below ha hb4
                have hk4 := hk3.trans (Kept.of hb4)
                obtain ⟨vo, ho, -⟩ := hs3.ord
                have hv4 := rep_new (a := pf) (b := pu) (c := po) (own_intsD hown (fun x hx => by have := HSN.out.rng x hx; unfold inI64; omega)) ⟨hs3.found.lt, hs3.least.lt, ho.lt⟩
                clear ho hb4
                have hsd := hs4.below ha ((Below.refl w4.heap.size w4).drew)
                have hkd := hk4.trans (Kept.of ((Below.refl w4.heap.size w4).drew))
                have hvd := (Kept.of (a := pf) (b := pu) (c := po) ((Below.refl w4.heap.size w4).drew)).rep hv4
                have q0 := hs4.scell.c0
                have q1 := hs4.pcell.c0
                obtain ⟨A4, c4, rfl⟩ := own_slice hown
                simp only [List.length_append, List.length_cons, List.length_nil, Nat.zero_add] at hvd
                clear hv4 hown
                go_wp2
                go_region_held3 (fun W => W.cell? ⟨ps, 0, none⟩ = some (.func (.func 32) #[] #[.pointer (some ⟨pf, 0, none⟩), .pointer (some ⟨pu, 0, none⟩), .pointer (some ⟨pl, 0, none⟩), .pointer (some ⟨po, 0, none⟩), .pointer (some ⟨pp, 0, none⟩), .pointer (some ⟨ps, 0, none⟩)]) ∧ W.cell? ⟨pp, 0, none⟩ = some (.pointer (some ⟨g, 0, none⟩)))
                  (first
                    | exact ⟨q0, q1⟩
                    | exact ⟨hs6.scell.c0, hs6.pcell.c0⟩
                    | exact ⟨hs5.scell.c0, hs5.pcell.c0⟩)
                  (first
                    | ((go_at_call 28
                        refine (punev_any g _ _ _ l reach stiff (b ++ [(k : Int)]) _ hsd.pan (rep_lt hsd.rl) (rep_lt hvd) HC.out HSN.out (by omega)).mono ?_
                        rintro e w5 ⟨rfl, hb5⟩
                        have hs5 := hsd.below ha hb5
                        have hk5 := hkd.trans (Kept.of hb5)
                        have hv5 := (Kept.of (a := pf) (b := pu) (c := po) hb5).rep hvd))
                    | ((go_at_call 32
                        refine (IH.out _ (b ++ [(k : Int)]) _ _ _ (by have := HF.out; simp; omega) HSN.out hs5 hv5).mono ?_
                        rintro e w6 ⟨rfl, hk6, hs6⟩)))
                rw [← HT.out] at hs6
                go_wp2
                go_roundw
                case rel => exact ⟨k + 1, by omega, by go_num, hk5.trans hk6, hs6⟩
                case measure => simp [intOf]; omega
              · have HT := Lib.hid (foldTo_no (U := unevB l reach stiff) (n := l.length) (f := f) (so := so) (s := s) hf)
                generalize hfb : freeB before b (k : Int) = fb at *
                subst hf
                have HFB := Lib.hid hfb
                clear hfb
                go_wp2_with fail
                refine (free_any g _ _ _ reach stiff _ before b _ _ hsr.pan (rep_lt hsr.rb) (rep_lt hvr)).mono ?_
                rintro e w3 ⟨he, hb3⟩
                rw [HFB.out] at he
                subst he
                have hs3 := hsr.below ha hb3
                have hk3 := hkw.trans (Kept.of hb3)
                clear hb3 kp
                go_wp2
                go_roundw
                case rel => exact ⟨k + 1, by omega, by go_num, hk3, by rw [HT.out]; exact hs3⟩
                case measure => simp [intOf]; omega
            · obtain rfl : k = l.length := by omega
              go_wp2
              go_end0
              exact SearchPost.of HS.out hkw hsr
end Go.Proofs.Ytgiphdjblnfjcaa

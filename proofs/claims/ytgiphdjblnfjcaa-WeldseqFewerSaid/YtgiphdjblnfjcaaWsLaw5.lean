/- Chapter 34: the law Fewer, by walking its text. -/
import Derived.Test.YtgiphdjblnfjcaaWsLaw4
namespace Go.Proofs.Ytgiphdjblnfjcaa
open Go Go.RowKit

def Rep.u16 : Rep Int where
  size := 1
  R _ _ n cs := cs = [.int .u16 n] ∧ 0 ≤ n ∧ n ≤ 65535
  len := by rintro _ _ _ _ ⟨rfl, _⟩; rfl
  mono _ h := h
  keep _ h := h
theorem opens_u16 : Opens Try.prog 40 Rep.u16 := by
  intro H enc W sp held fuel cs x h
  obtain ⟨n, rfl, _, hw⟩ := DataW.trod_int Try.underlying40 h
  have := bounds_u16 hw
  exact ⟨n, rfl, by omega⟩
theorem opensZ_u16 : OpensZ Try.prog 40 Rep.u16 (fun _ => True) := opensZ_of opens_u16
def prEnc (x : Int × Int) : List Value := [.int .i64 x.1, .int .i64 x.2]
theorem flat_pr : Flat prR prEnc := ⟨fun h => by obtain ⟨a, b, rfl, ⟨rfl, _⟩, ⟨rfl, _⟩⟩ := h; rfl, fun x u hu => by simp [prEnc] at hu; rcases hu with rfl | rfl <;> rfl, fun _ => rfl, by decide⟩
theorem pr_info : (Try.prog.info? 46).map (fun i => (i.zero, i.size, i.bytes)) = some (some (.agg #[.int .i64 0, .int .i64 0]), 2, 16) := by kernel_rfl
theorem prs_bd {w : World} {D : Nat → Prop} {l : List (Int × Int)} {v : Value} (h : prR.slice.R w D l [v]) : ∀ x ∈ l, inI64 x.1 ∧ inI64 x.2 := by
  intro x hx
  obtain ⟨k, hk, rfl⟩ := List.getElem_of_mem hx
  obtain ⟨A, c, rfl, -, -⟩ := slice_inv h
  obtain ⟨b, off, p, s, -, hxk, -, -, -, h1, h2, h3, h4⟩ := pairs_at h hk
  have e := hxk.out
  rw [List.getElem?_eq_getElem hk] at e
  injection e with e
  rw [e]
  exact ⟨⟨h1, h2⟩, ⟨h3, h4⟩⟩
theorem own_prs {w : World} {base n : Nat} {v : Value} {xs : List (Int × Int)} (h : w.ownsRow base 46 2 v n (xs.flatMap prEnc)) (hR : ∀ x ∈ xs, inI64 x.1 ∧ inI64 x.2) : prR.slice.R w (Lt w) xs [v] :=
  own_enc (E := prR) (enc := prEnc) (fun _ => rfl) (by decide) h (fun x hx => ⟨[.int .i64 x.1], [.int .i64 x.2], rfl, ⟨rfl, (hR x hx).1⟩, ⟨rfl, (hR x hx).2⟩⟩)
set_option maxRecDepth 100000 in
set_option maxHeartbeats 2000000 in
theorem fewer_law (a0 : Array Value) (kk : Int) (x : List Bead × (Int × Int) × List (Int × Int)) (k : Int) (w : World) (hx : panelR.R w (Lt w) x a0.toList) (hk : Rep.u16.R w (Lt w) k [.int .u16 kk]) :
    Calls Try.prog 7 #[.agg a0, .int .u16 kk] w (Ret (.bool true) w) := by
  obtain ⟨A, c, B, d, rfl, hl, hb, hm, hmb⟩ := panel_inv hx
  obtain ⟨l, ⟨reach, stiff⟩, before⟩ := x
  obtain ⟨e0, hk0, hk1⟩ := hk
  have e0 : kk = k := by simpa using e0
  subst e0
  simp only [] at hl hb hm hmb ⊢
  have hw0 : Below w.heap.size w (w.alloc (.cells #[.slice A l.length c, .int .i64 reach, .int .i64 stiff, .slice B before.length d] 27)) := (Below.refl _ _).alloc (Nat.le_refl _) _
  have bk0 := Blk.new w 27 #[.slice A l.length c, .int .i64 reach, .int .i64 stiff, .slice B before.length d]
  rcases Bool.eq_false_or_eq_true (lightB l before 6) with h6 | h6
  · have H6 := Lib.hid h6
    have h8 : ¬ 8 < l.length := by have := light_len h6; omega
    have hb100 : before.length ≤ 100 := by unfold lightB at h6; rw [Bool.and_eq_true, decide_eq_true_eq, decide_eq_true_eq] at h6; exact h6.2
    clear h6
    by_cases hz : before.length = 0
    · have hzb : ((before.length : Int) == 0) = true := by simp [hz]
      clear hz h8
      go_enter Try.func7, Try.ntmps7
      go_wp2_with fail
      refine (light_any A B c d l before reach stiff 6 _).mono ?_
      rintro e w1 ⟨h1, hb1⟩
      rw [H6.out] at h1
      subst h1
      have hw1 := bstep hw0 hw0.size hb1
      have bk1 := bk0.below hb1 bk0.lt
      have k3 := bk1.cell 3
      simp only [List.getElem?_toArray, List.getElem?_cons_zero, List.getElem?_cons_succ] at k3
      go_wp2_with fail
      refine (awake_any _).mono ?_
      rintro e w2 ⟨rfl, hb2⟩
      go_wp2
      go_ret
      exact ⟨rfl, bstep hw1 hw1.size hb2⟩
    · have hzb : ((before.length : Int) == 0) = false := by simp [hz]
      have hpos : 0 < before.length := by omega
      clear hz
      by_cases hw : wrongF l reach stiff before = 0
      · have HB := Lib.hid (bestF_yes h8 hw)
        have h1 := Int.emod_nonneg kk (show (before.length : Int) ≠ 0 by omega)
        have h2 := Int.emod_lt_of_pos kk (show (0 : Int) < before.length by omega)
        obtain ⟨i, hi⟩ := Int.eq_ofNat_of_zero_le h1
        have hil : i < before.length := by omega
        have HS : Hid (∀ x ∈ before.take i ++ before.drop (i + 1), x ∈ before) := by
          show ∀ x ∈ before.take i ++ before.drop (i + 1), x ∈ before
          intro x hx
          rcases List.mem_append.1 hx with hx | hx
          · exact List.mem_of_mem_take hx
          · exact List.mem_of_mem_drop hx
        have HB2 := Lib.hid (bestF_yes h8 (wrong_fewer HS.out hw))
        have hle := least_fewer HS.out hw
        have HBD := Lib.hid (prs_bd hb)
        clear h1 h2 hw
        obtain ⟨bb, off, p0, s0, rfl, -⟩ := pairs_at hb hpos
        obtain ⟨hdl, hdc⟩ : before.length ≤ d ∧ True := ⟨by obtain ⟨_, _, e, h, _⟩ := hb; injection e with e _; injection e with _ _ e; subst e; exact h, trivial⟩
        have q1 := run_take (P := Try.prog) Try.underlying25 Try.sizeOf46 (some ⟨bb, off, none⟩) before.length d i (by omega)
        obtain ⟨A2, q2, r2⟩ := run_drop_any (P := Try.prog) Try.underlying25 Try.sizeOf46 bb off before.length d (i + 1) (by omega) hdl
        have q2' : ∀ W : World, (Instr.slice 25 (.slice (some ⟨bb, off, none⟩) before.length d) (some (.int .i64 ((i : Int) + 1))) none none).run Try.prog W = .ok (.slice A2 (before.length - (i + 1)) (d - (i + 1))) W := q2
        clear q2
        obtain ⟨i0, hinf, hz0, hz1, hz2⟩ := info_parts pr_info
        go_enter Try.func7, Try.ntmps7
        go_wp2_with fail
        refine (light_any A (some ⟨bb, off, none⟩) c d l before reach stiff 6 _).mono ?_
        rintro e w1 ⟨h1, hb1⟩
        rw [H6.out] at h1
        subst h1
        have hw1 := bstep hw0 hw0.size hb1
        have bk1 := bk0.below hb1 bk0.lt
        have k0 := bk1.cell 0
        have k1 := bk1.cell 1
        have k2 := bk1.cell 2
        have k3 := bk1.cell 3
        simp only [List.getElem?_toArray, List.getElem?_cons_zero, List.getElem?_cons_succ] at k0 k1 k2 k3
        go_wp2_with fail
        refine (best_any _ _ l reach stiff before _ (Rep.below hl hw1) (Rep.below hb hw1)).mono ?_
        rintro e w2 ⟨v2, he, hv2, hb2⟩
        rw [HB.out] at he
        subst he
        obtain ⟨A1, c1, rfl, -, -⟩ := slice_inv hv2
        have hw2 := bstep hw1 hw1.size hb2
        have bk2 := bk1.below hb2 bk1.lt
        clear k0 k1 k2 k3
        have k0 := bk2.cell 0
        have k1 := bk2.cell 1
        have k2 := bk2.cell 2
        have k3 := bk2.cell 3
        simp only [List.getElem?_toArray, List.getElem?_cons_zero, List.getElem?_cons_succ] at k0 k1 k2 k3
        clear hb1 hb2 hv2 hw1 bk1
        have hb2' := Rep.below hb hw2
        have ht := Rep.slice_take hb2' (k := i) (by omega)
        have hd := r2 prR _ _ _ rfl hb2'
        have hlt : (before.take i).length = i := by rw [List.length_take]; omega
        have hld : (before.drop (i + 1)).length = before.length - (i + 1) := by rw [List.length_drop]
        have HLT := Lib.hid hlt
        have HLD := Lib.hid hld
        clear hlt hld
        go_wp2_with (first
          | (at_builtin
             refine wpList_append_flat flat_pr rfl _ _ 25 rfl w2.heap.size 46 i0 (.agg #[.int .i64 0, .int .i64 0]) 16 Try.underlying25 hinf hz0 hz1 hz2 rfl (.slice none 0 0) 0 [] rfl (World.ownsRow_nil _ _ _ _) (before.take i) rfl ht (by rw [HLT.out]; omega) (by rw [HLT.out]; omega) (Nat.le_refl _) ?_
             intro v3 w3 hown3 hg3
             have hb3 : Below w2.heap.size w2 w3 := (Below.refl _ _).grown hg3 (Nat.le_refl _) (fun j hj => by cases hj)
             simp only [Nat.zero_add, List.nil_append, HLT.out] at hown3
             have hd3 := Rep.below hd hb3
             have bk3 := bk2.below hb3 bk2.lt
             have m3 := bk3.cell 3
             have m0 := bk3.cell 0
             have m1 := bk3.cell 1
             have m2 := bk3.cell 2
             simp only [List.getElem?_toArray, List.getElem?_cons_zero, List.getElem?_cons_succ] at m0 m1 m2 m3
             obtain ⟨A3, c3, rfl⟩ := own_slice hown3)
          | (at_builtin
             refine wpList_append_flat flat_pr rfl _ _ 25 rfl w2.heap.size 46 i0 (.agg #[.int .i64 0, .int .i64 0]) 16 Try.underlying25 hinf hz0 hz1 hz2 rfl _ _ _ rfl hown3 (before.drop (i + 1)) rfl hd3 (by rw [HLD.out]; omega) (by rw [HLD.out]; omega) hb3.size ?_
             intro v4 w4 hown4 hg4
             have hb4 : Below w2.heap.size w2 w4 := hb3.grown hg4 hb3.size (fun j hj => (World.ownsRow.lt hown3 j hj).1)
             have bk4 := bk2.below hb4 bk2.lt
             have n0 := bk4.cell 0
             have n1 := bk4.cell 1
             have n2 := bk4.cell 2
             simp only [List.getElem?_toArray, List.getElem?_cons_zero, List.getElem?_cons_succ] at n0 n1 n2
             obtain ⟨n4, hn4⟩ : ∃ n4 : Nat, i + (before.drop (i + 1)).length = n4 := ⟨_, rfl⟩
             rw [hn4] at hown4
             clear hn4
             obtain ⟨A4, c4, rfl⟩ := own_slice hown4))
        rw [← List.flatMap_append] at hown4
        have hp4 := own_prs hown4 (fun x hx => HBD.out x (HS.out x hx))
        have hw4 := bstep hw2 hw2.size hb4
        refine (best_any _ _ l reach stiff (before.take i ++ before.drop (i + 1)) _ (Rep.below hl hw4) hp4).mono ?_
        rintro e w5 ⟨v5, he, hv5, hb5⟩
        rw [HB2.out] at he
        subst he
        obtain ⟨A5, c5, rfl, -, -⟩ := slice_inv hv5
        have hw5 := bstep hw4 hw4.size hb5
        go_wp2_with fail
        refine (awake_any _).mono ?_
        rintro e w6 ⟨rfl, hb6⟩
        go_wp2
        go_ret
        exact ⟨rfl, bstep hw5 hw5.size hb6⟩
      · have HB := Lib.hid (bestF_bad h8 hw)
        have hwb : (wrongF l reach stiff before != 0) = true := by simp [hw]
        clear hw
        generalize wrongF l reach stiff before = wf at *
        go_enter Try.func7, Try.ntmps7
        go_wp2_with fail
        refine (light_any A B c d l before reach stiff 6 _).mono ?_
        rintro e w1 ⟨h1, hb1⟩
        rw [H6.out] at h1
        subst h1
        have hw1 := bstep hw0 hw0.size hb1
        have bk1 := bk0.below hb1 bk0.lt
        have k0 := bk1.cell 0
        have k1 := bk1.cell 1
        have k2 := bk1.cell 2
        have k3 := bk1.cell 3
        simp only [List.getElem?_toArray, List.getElem?_cons_zero, List.getElem?_cons_succ] at k0 k1 k2 k3
        go_wp2_with fail
        refine (best_any _ _ l reach stiff before _ (Rep.below hl hw1) (Rep.below hb hw1)).mono ?_
        rintro e w2 ⟨v2, he, hv2, hb2⟩
        rw [HB.out] at he
        subst he
        have hw2 := bstep hw1 hw1.size hb2
        obtain ⟨A1, c1, rfl, -, -⟩ := slice_inv hv2
        clear k0 k1 k2 k3
        go_wp2_with fail
        refine (awake_any _).mono ?_
        rintro e w3 ⟨rfl, hb3⟩
        go_wp2
        go_ret
        exact ⟨rfl, bstep hw2 hw2.size hb3⟩
  · have H6 := Lib.hid h6
    clear h6
    go_enter Try.func7, Try.ntmps7
    go_wp2_with fail
    refine (light_any A B c d l before reach stiff 6 _).mono ?_
    rintro e w1 ⟨h1, hb1⟩
    rw [H6.out] at h1
    subst h1
    have hw1 := bstep hw0 hw0.size hb1
    go_wp2_with fail
    refine (awake_any _).mono ?_
    rintro e w2 ⟨rfl, hb2⟩
    go_wp2
    go_ret
    exact ⟨rfl, bstep hw1 hw1.size hb2⟩
end Go.Proofs.Ytgiphdjblnfjcaa

/- Chapter 33: the law DistortSwaps, by walking its text. -/
import Derived.Test.YtlhkidiieajamaaDistLaws
import Derived.Test.YtlhkidiieajamaaDistPlainB
import Derived.Deep.RegionHeld3
import Derived.Deep.AppendLies
namespace Go.Proofs.Ytlhkidiieajamaa
open Go Go.RowKit

theorem slice_drop1 {w : World} {D : Nat → Prop} {x : Int} {xs : List Int} {b off n c : Nat} (h : Rep.int.slice.R w D (x :: xs) [.slice (some ⟨b, off, none⟩) n c]) (hp : 0 < c) : Rep.int.slice.R w D xs [.slice (some ⟨b, off + 1, none⟩) xs.length (c - 1)] := by
  obtain ⟨A', c', e, h1, h2, h3⟩ := h
  injection e with e _
  injection e with e1 e2 e3
  subst e1 e3
  refine ⟨_, _, rfl, by simp at h1; omega, by omega, fun k hk => ?_⟩
  obtain ⟨b', off', es, e, hb, hr, hc⟩ := h3 (k + 1) (by simp; omega)
  injection e with e
  injection e with e5 e6 _
  subst e5 e6
  refine ⟨b, off + 1, es, rfl, hb, by simpa using hr, fun j hj => ?_⟩
  have := hc j hj
  rw [← this, Nat.add_mul, Nat.one_mul, show Rep.int.size = 1 from rfl]
  congr 2
  omega

theorem order_split {order : List Int} {j : Nat} {x y : Int} (hx : order[j]? = some x) (hy : order[j + 1]? = some y) : ∃ A B, order = A ++ x :: y :: B ∧ (order.set j y).set (j + 1) x = A ++ y :: x :: B := by
  obtain ⟨h1, e1⟩ := List.getElem?_eq_some_iff.1 hx
  obtain ⟨h2, e2⟩ := List.getElem?_eq_some_iff.1 hy
  have e : order = order.take j ++ x :: y :: order.drop (j + 2) := by
    conv => lhs; rw [← List.take_append_drop j order, List.drop_eq_getElem_cons h1, List.drop_eq_getElem_cons h2, e1, e2]
  have hl : (order.take j).length = j := by rw [List.length_take]; omega
  refine ⟨order.take j, order.drop (j + 2), e, ?_⟩
  generalize order.take j = A at *
  generalize order.drop (j + 2) = B at *
  subst e
  rw [List.set_append_right _ _ (by omega), hl, Nat.sub_self, List.set_cons_zero, List.set_append_right _ _ (by omega), hl, show j + 1 - j = 1 from by omega]
  rfl
theorem ints_cells {w : World} {D : Nat → Prop} {xs : List Int} {b off n c : Nat} (h : Rep.int.slice.R w D xs [.slice (some ⟨b, off, none⟩) n c]) : ∀ j u, (xs.map (Value.int .i64))[j]? = some u → w.cell? ((⟨b, off, none⟩ : Addr).add j) = some u := by
  intro j u hj
  rw [List.getElem?_map] at hj
  obtain ⟨x, hx, rfl⟩ := Option.map_eq_some_iff.1 hj
  obtain ⟨b', off', x', e, hx', -, hc, -⟩ := ints_at h (lt_of_get hx)
  injection e with e
  injection e with e5 e6 _
  subst e5 e6
  have : x' = x := by have := hx'.out.symm.trans hx; injection this
  subst this
  rw [← hc]
  congr 1
  unfold Addr.add
  split <;> simp_all
theorem map_oneCell (xs : List Int) : ∀ u ∈ xs.map (Value.int .i64), u.oneCell' = true := by
  intro u hu
  obtain ⟨x, _, rfl⟩ := List.mem_map.1 hu
  rfl
theorem beq_self_int (a : Int) : (a == a) = true := by simp
theorem dec_self (a : List Int) : decide (a = a) = true := by simp

set_option maxRecDepth 100000 in
set_option maxHeartbeats 2000000 in
theorem swaps_law (vl : Value) (csr : Array Value) (va : Value) (l : List Bead) (r : Int × Int) (ats : List Int) (w : World) (hl : beadR.slice.R w (Lt w) l [vl]) (hr : (Rep.int.pair Rep.int).R w (Lt w) r csr.toList) (ha : Rep.int.slice.R w (Lt w) ats [va]) :
    Calls Try.prog 7 #[vl, .agg csr, va] w (Ret (.bool true) w) := by
  obtain rfl := pair_inv hr
  obtain ⟨reach, stiff⟩ := r
  clear hr
  simp only
  obtain ⟨A, c, rfl, hm, -⟩ := slice_inv hl
  obtain ⟨F, d, rfl, hm', hcap⟩ := slice_inv ha
  have hw0 : Below w.heap.size w (w.alloc (.cells #[.int .i64 reach, .int .i64 stiff] 24)) := (Below.refl _ _).alloc (Nat.le_refl _) _
  have b0 := Blk.new w 24 #[.int .i64 reach, .int .i64 stiff]
  by_cases h1 : 60 < l.length
  · go_enter Try.func7, Try.ntmps7
    go_wp2_with (go_at_call 9; refine (alive_any _).mono ?_; rintro e w1 ⟨rfl, hb⟩)
    go_ret
    exact ⟨rfl, bstep hw0 hw0.size hb⟩
  · by_cases h2 : 61 < ats.length
    · go_enter Try.func7, Try.ntmps7
      go_wp2_with (go_at_call 9; refine (alive_any _).mono ?_; rintro e w1 ⟨rfl, hb⟩)
      go_ret
      exact ⟨rfl, bstep hw0 hw0.size hb⟩
    · by_cases h3 : ats.length < 2
      · go_enter Try.func7, Try.ntmps7
        go_wp2_with (go_at_call 9; refine (alive_any _).mono ?_; rintro e w1 ⟨rfl, hb⟩)
        go_ret
        exact ⟨rfl, bstep hw0 hw0.size hb⟩
      · obtain ⟨k, order, rfl⟩ : ∃ k order, ats = k :: order := by
          cases ats with
          | nil => simp at h3
          | cons a b => exact ⟨a, b, rfl⟩
        obtain ⟨b, off, k', rfl, hk, -, c0, -⟩ := ints_at (Rep.below ha hw0) (k := 0) (by simp)
        obtain rfl : k' = k := by have := hk.out; simp at this; exact this.symm
        have ho := slice_drop1 ha (by simp at hcap; omega)
        simp only [List.length_cons] at *
        rw [Nat.add_zero] at c0
        clear hk
        by_cases hz : (runF l reach stiff order).2 = 0
        · have hb1 : ((runF l reach stiff order).2 != 0) = false := by simp [hz]
          obtain ⟨hC, hO, hR⟩ := runF_zero hz
          obtain ⟨h32, hrs, hok⟩ := checkF_ok hC
          obtain ⟨ho1, ho2, ho3⟩ := orderB_yes hO
          have hrr := restrOk_iff.1 hrs
          have hr0 : 0 ≤ reach := hrr.1
          have hr1 : reach ≤ 32768 := hrr.2.1
          have hbl : ((order.length : Int) != (l.length : Int)) = false := by simp [ho1]
          have HZ := Lib.hid hz
          have HO1 := Lib.hid ho1
          have HO2 := Lib.hid ho2
          have HK := Lib.hid hok
          have hol : order.length ≤ 32 := by omega
          clear hz hC hO hR hrs hok ho1 ho2 ho3 hrr
          go_enter Try.func7, Try.ntmps7
          go_wp2
          go_quiet (fail)
          go_wp2_with fail
          have hwq := below_drewN hw0 nq
          refine (run_any _ _ _ _ _ _ _ (Rep.below hl hwq) (Rep.below ho hwq)).mono ?_
          rintro e w1 ⟨v1, rfl, hv1, hb⟩
          have hw1 := bstep hwq hwq.size hb
          have hzz := hb.size
          have b1 := (b0.drewN nq).below hb (by simp [World.drewN])
          clear hb b0 hw0 hwq c0
          have k0 := b1.c20
          have k1 := b1.c21
          by_cases hk0 : 0 ≤ k'
          · obtain ⟨j, rfl⟩ := Int.eq_ofNat_of_zero_le hk0
            by_cases hk1 : j + 1 < order.length
            · obtain ⟨b', off', x, e, hx, -, c1, -⟩ := ints_at (Rep.below ho hw1) (k := j) (by omega)
              injection e with e
              injection e with e5 e6 _
              subst e5 e6
              obtain ⟨b', off', y, e, hy, -, c2, -⟩ := ints_at (Rep.below ho hw1) (k := j + 1) hk1
              injection e with e
              injection e with e5 e6 _
              subst e5 e6
              have HX := Lib.hid (HO2.out x (List.mem_of_getElem? hx.out))
              have hx0 := HX.out.1
              have hx1 := HX.out.2
              obtain ⟨xi, rfl⟩ := Int.eq_ofNat_of_zero_le hx0
              have HY := Lib.hid (HO2.out y (List.mem_of_getElem? hy.out))
              have hy0 := HY.out.1
              have hy1 := HY.out.2
              obtain ⟨yi, rfl⟩ := Int.eq_ofNat_of_zero_le hy0
              have hxl : xi < l.length := by omega
              have hyl : yi < l.length := by omega
              obtain ⟨b2, off2, p, s, rfl, hbx, -, c3, -⟩ := beads_at (Rep.below hl hw1) hxl
              obtain ⟨b3, off3, p', s', e, hby, -, c4, -⟩ := beads_at (Rep.below hl hw1) hyl
              injection e with e
              injection e with e5 e6 _
              subst e5 e6
              have HB := Lib.hid (okBead_at HK.out hbx.out)
              have hp0 : -32768 ≤ p := HB.out.1
              have hp1 : p ≤ 32768 := HB.out.2.1
              have HB' := Lib.hid (okBead_at HK.out hby.out)
              have hp0' : -32768 ≤ p' := HB'.out.1
              have hp1' : p' ≤ 32768 := HB'.out.2.1
              by_cases hd : -reach ≤ p - p' ∧ p - p' ≤ reach
              · obtain ⟨hd1, hd2⟩ := hd
                go_wp2
                go_quiet (fail)
                go_wp2
                go_quiet (fail)
                have hqq := (Qt.refl w1)
                go_wp2_with (go_at_call 9; refine (alive_any _).mono ?_; rintro e w2 ⟨rfl, hb⟩)
                go_ret
                exact ⟨rfl, bstep (below_drewN hw1 _) hw1.size hb⟩
              · have HD : Hid (nearB l reach xi yi = false ∧ nearB l reach yi xi = false) := by
                  constructor
                  · rw [nearB_of hbx.out hby.out]; exact bool_of_not (fun h => hd (by have := fromB_iff.1 h; omega))
                  · rw [nearB_of hby.out hbx.out]; exact bool_of_not (fun h => hd (by have := fromB_iff.1 h; omega))
                obtain ⟨OA, OB, hoe, hos⟩ := order_split hx.out hy.out
                have HSW : Hid (runF l reach stiff ((order.set j yi).set (j + 1) xi) = runF l reach stiff order) := by
                  show runF l reach stiff ((order.set j yi).set (j + 1) xi) = runF l reach stiff order
                  rw [hos, hoe]
                  exact runF_swap (by rw [← hoe]; exact HZ.out) HD.out.1 HD.out.2
                clear hoe hos
                have hd' : ¬ -reach ≤ p - p' ∨ (-reach ≤ p - p' ∧ ¬ p - p' ≤ reach) := by omega
                clear hd
                obtain ⟨i0, hi, hz0, hz1, hz2⟩ := info_parts int_info
                rcases hd' with hd1 | ⟨hd1, hd2⟩
                all_goals
                  go_wp2
                  go_quiet (fail)
                  go_wp2
                  go_quiet (fail)
                  go_wp2_with (at_builtin; refine wpList_append_own _ rfl _ _ 25 rfl w1.heap.size 3 i0 (.int .i64 0) 1 8 Try.underlying25 hi hz0 hz1 hz2 rfl (by decide) _ _ _ rfl (World.ownsRow_made (base := w1.heap.size) (e := 3) (size := 1) _ #[] 0 (Nat.le_refl _) (by unfold maxLen; omega) rfl) ⟨b, off + 1, none⟩ order.length (d - 1) (order.map (Value.int .i64)) rfl (by simp) (ints_cells (Rep.below (Rep.below ho hw1) ((below_drewN (Below.refl _ _) _).alloc (Nat.le_refl _) _))) (map_oneCell _) (by unfold maxLen; omega) (by omega) (by simp) ?_; intro v2 w2 hown2 hg2 _; simp only [Nat.zero_add, List.nil_append] at hown2; have hw12 : Below w1.heap.size w1 w2 := ((below_drewN (Below.refl _ _) _).alloc (Nat.le_refl _) _).grown hg2 (by simp) (fun k e => by injection e with e; exact Nat.le_of_eq e); obtain ⟨g, cap, rfl, hgb, hglt⟩ := hown2.form (by omega); have b2' := b1.below hw12 (by have := hzz; simp at this; omega); have hwg : w.heap.size < g := (by simp at hzz; omega); have hgne : ¬ w.heap.size = g := (by omega); have k0 := b2'.c20; have k1 := b2'.c21; have d0 : w2.cell? ⟨g, j, none⟩ = some (.int .i64 (xi : Int)) := (by rw [hown2.cellAt j (by omega), List.getElem?_map, hx.out]; rfl); have d1 : w2.cell? ⟨g, j + 1, none⟩ = some (.int .i64 (yi : Int)) := (by rw [hown2.cellAt (j + 1) (by omega), List.getElem?_map, hy.out]; rfl); have hj0 : j < order.length := (by omega); have f0 := hown2.frozenAt j; have f1 := hown2.frozenAt (j + 1))
                  have s1 := (hown2.stored j (.int .i64 (yi : Int))).1
                  have s2 := (s1.stored (j + 1) (.int .i64 (xi : Int))).1
                  rw [← List.map_set, ← List.map_set] at s2
                  have hoth : Rep.int.slice.R ((w2.setCell ⟨g, j, none⟩ (.int .i64 (yi : Int))).setCell ⟨g, j + 1, none⟩ (.int .i64 (xi : Int))) (Lt _) ((order.set j yi).set (j + 1) xi) [.slice (some ⟨g, 0, none⟩) order.length cap] := own_ints s2 (fun z hz => by
                    rcases List.mem_or_eq_of_mem_set hz with h | h
                    · rcases List.mem_or_eq_of_mem_set h with h | h
                      · have := HO2.out z h; unfold inI64; omega
                      · subst h; unfold inI64; omega
                    · subst h; unfold inI64; omega)
                  have hw13 : Below w1.heap.size w1 ((w2.setCell ⟨g, j, none⟩ (.int .i64 (yi : Int))).setCell ⟨g, j + 1, none⟩ (.int .i64 (xi : Int))) := (hw12.setCell (p := ⟨g, j, none⟩) hgb _).setCell (p := ⟨g, j + 1, none⟩) hgb _
                  have hw3 := bstep hw1 hw1.size hw13
                  have hv1' := Rep.below hv1 hw13
                  clear hw13 hw12 hown2 hg2 s1 s2 k0 k1 d0 d1 f0 f1
                  refine (run_any _ _ _ _ _ _ _ (Rep.below hl hw3) hoth).mono ?_
                  rintro e w4 ⟨v4, he, hv4, hb⟩
                  rw [HSW.out] at he hv4
                  subst he
                  have hw4 := bstep hw3 hw3.size hb
                  have hv1 := Rep.below hv1' hb
                  clear hb hw3 hv1' hoth
                  have hb5 : ((runF l reach stiff order).2 == 0) = true := by have := HZ.out; simp [this]
                  go_wp2_with fail
                  refine (ints_any _ _ _ _ _ hv1 hv4).mono ?_
                  rintro e w5 ⟨he, hb⟩
                  rw [dec_self] at he
                  subst he
                  have hw5 := bstep hw4 hw4.size (hb.below _)
                  clear hb hw4 hv1 hv4
                  go_wp2_with fail
                  refine (alive_any _).mono ?_
                  rintro e w6 ⟨rfl, hb⟩
                  go_wp2
                  go_ret
                  exact ⟨rfl, bstep hw5 hw5.size hb⟩
            · have hk1' : (order.length : Int) - 1 ≤ (j : Int) := by omega
              go_wp2_with (go_at_call 9; refine (alive_any _).mono ?_; rintro e w2 ⟨rfl, hb⟩)
              go_ret
              exact ⟨rfl, bstep hw1 hw1.size hb⟩
          · go_wp2_with (go_at_call 9; refine (alive_any _).mono ?_; rintro e w2 ⟨rfl, hb⟩)
            go_ret
            exact ⟨rfl, bstep hw1 hw1.size hb⟩
        · have hb1 : ((runF l reach stiff order).2 != 0) = true := by simp [hz]
          clear hz
          go_enter Try.func7, Try.ntmps7
          go_wp2
          go_quiet (fail)
          go_wp2_with fail
          have hwq := below_drewN hw0 nq
          refine (run_any _ _ _ _ _ _ _ (Rep.below hl hwq) (Rep.below ho hwq)).mono ?_
          rintro e w1 ⟨v1, rfl, hv1, hb⟩
          have hw1 := bstep hwq hwq.size hb
          have hzz := hb.size
          have b1 := (b0.drewN nq).below hb (by simp [World.drewN])
          clear hb b0 hw0 hwq c0
          have k0 := b1.c20
          have k1 := b1.c21
          go_wp2_with (go_at_call 9; refine (alive_any _).mono ?_; rintro e w2 ⟨rfl, hb⟩)
          go_ret
          exact ⟨rfl, bstep hw1 hw1.size hb⟩
end Go.Proofs.Ytlhkidiieajamaa

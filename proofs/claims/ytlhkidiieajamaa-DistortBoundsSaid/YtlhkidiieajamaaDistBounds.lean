/- Chapter 33: the law DistortBounds, by walking its text. -/
import Derived.Test.YtlhkidiieajamaaDistLaws
import Derived.Test.YtlhkidiieajamaaDistPlain
import Derived.Deep.DeepCutAuto
namespace Go.Proofs.Ytlhkidiieajamaa
open Go Go.RowKit

theorem quad_inv {w : World} {D : Nat → Prop} {x : (Int × Int) × (Int × Int)} {cs : Array Value} (h : ((Rep.int.pair Rep.int).pair (Rep.int.pair Rep.int)).R w D x cs.toList) : cs = #[.int .i64 x.1.1, .int .i64 x.1.2, .int .i64 x.2.1, .int .i64 x.2.2] := by
  obtain ⟨a, b, e, ⟨c, d, rfl, ⟨rfl, _⟩, ⟨rfl, _⟩⟩, ⟨c', d', rfl, ⟨rfl, _⟩, ⟨rfl, _⟩⟩⟩ := h
  apply Array.ext'
  simpa using e
theorem opens_restr2 : Opens Try.prog 37 ((Rep.int.pair Rep.int).pair (Rep.int.pair Rep.int)) := opens_array2 Try.underlying37 (by kernel_rfl) (by kernel_rfl) opens_restr
theorem Blk.c40 {w : World} {g : Nat} {t : TypeId} {a b c d : Value} (h : Blk w g t #[a, b, c, d]) : w.cell? ⟨g, 0, none⟩ = some a := h.cell 0
theorem Blk.c41 {w : World} {g : Nat} {t : TypeId} {a b c d : Value} (h : Blk w g t #[a, b, c, d]) : w.cell? ⟨g, 1, none⟩ = some b := h.cell 1
theorem Blk.c42 {w : World} {g : Nat} {t : TypeId} {a b c d : Value} (h : Blk w g t #[a, b, c, d]) : w.cell? ⟨g, 2, none⟩ = some c := h.cell 2
theorem Blk.c43 {w : World} {g : Nat} {t : TypeId} {a b c d : Value} (h : Blk w g t #[a, b, c, d]) : w.cell? ⟨g, 3, none⟩ = some d := h.cell 3
theorem or3 {a b c : Prop} (h : ¬ (a ∧ b ∧ c)) : ¬ a ∨ (a ∧ ¬ b) ∨ (a ∧ b ∧ ¬ c) := by
  by_cases a <;> by_cases b <;> by_cases c <;> simp_all
theorem runF_one {l : List Bead} {reach stiff : Int} {order : List Int} (h : (runF l reach stiff order).2 ≠ 0) : (runF l reach stiff order).1 = [] := by
  unfold runF at h ⊢
  by_cases h1 : checkF l reach stiff = 0
  · by_cases h2 : orderB order l.length = false
    · simp [h1, h2]
    · simp [h1, h2] at h
  · simp [h1]

set_option maxRecDepth 100000 in
set_option maxHeartbeats 4000000 in
theorem bounds_law (vl : Value) (csr : Array Value) (vo : Value) (l : List Bead) (r : (Int × Int) × (Int × Int)) (order : List Int) (w : World) (hl : beadR.slice.R w (Lt w) l [vl]) (hr : ((Rep.int.pair Rep.int).pair (Rep.int.pair Rep.int)).R w (Lt w) r csr.toList) (ho : Rep.int.slice.R w (Lt w) order [vo]) :
    Calls Try.prog 5 #[vl, .agg csr, vo] w (Ret (.bool true) w) := by
  obtain rfl := quad_inv hr
  obtain ⟨⟨r0, s0⟩, r1, s1⟩ := r
  clear hr
  simp only
  obtain ⟨A, c, rfl, hm, -⟩ := slice_inv hl
  obtain ⟨F, d, rfl, hm', -⟩ := slice_inv ho
  have hw0 : Below w.heap.size w (w.alloc (.cells #[.int .i64 r0, .int .i64 s0, .int .i64 r1, .int .i64 s1] 37)) := (Below.refl _ _).alloc (Nat.le_refl _) _
  have b0 := Blk.new w 37 #[.int .i64 r0, .int .i64 s0, .int .i64 r1, .int .i64 s1]
  by_cases h1 : 60 < l.length
  · go_enter Try.func5, Try.ntmps5
    go_wp2_with (go_at_call 9; refine (alive_any _).mono ?_; rintro e w1 ⟨rfl, hb⟩)
    go_ret
    exact ⟨rfl, bstep hw0 hw0.size hb⟩
  · by_cases h2 : 60 < order.length
    · go_enter Try.func5, Try.ntmps5
      go_wp2_with (go_at_call 9; refine (alive_any _).mono ?_; rintro e w1 ⟨rfl, hb⟩)
      go_ret
      exact ⟨rfl, bstep hw0 hw0.size hb⟩
    · by_cases hz : (runF l r0 s0 order).2 = 0
      · have hb1 : ((runF l r0 s0 order).2 != 0) = false := by simp [hz]
        obtain ⟨hC, hO, hR⟩ := runF_zero hz
        obtain ⟨h32, hrs, hok⟩ := checkF_ok hC
        have hol := (orderB_yes hO).1
        have hal : (runF l r0 s0 order).1.length = l.length := by rw [hR, runTo_length]
        have hs0 : 0 ≤ s0 := by have := restrOk_iff.1 hrs; omega
        have hbl : ((((runF l r0 s0 order).1.length : Nat) : Int) != (l.length : Int)) = false := by simp [hal]
        have hbo : ((order.length : Int) != (l.length : Int)) = false := by simp [hol]
        have HR := Lib.hid hR
        have HO := Lib.hid hO
        have HK := Lib.hid hok
        have HS := Lib.hid hrs
        have HAL := Lib.hid hal
        have HOL := Lib.hid hol
        clear hz hC hO hR hok hrs hal hol
        go_enter Try.func5, Try.ntmps5
        go_wp2_with fail
        refine (run_any _ _ _ _ _ _ _ (Rep.below hl hw0) (Rep.below ho hw0)).mono ?_
        rintro e w1 ⟨v1, rfl, hv1, hb⟩
        have hw1 := bstep hw0 hw0.size hb
        have hz1 := hb.size
        have b1 := b0.below hb (by simp)
        simp only [World.size_alloc] at hz1
        clear hb b0 hw0
        obtain ⟨V1, c1, rfl, -, -⟩ := slice_inv hv1
        have k0 := b1.c40
        have k1 := b1.c41
        have k2 := b1.c42
        have k3 := b1.c43
        go_wp2_with fail
        refine (run_any _ _ _ _ _ _ _ (Rep.below hl hw1) (Rep.below ho hw1)).mono ?_
        rintro e w2 ⟨v2, rfl, hv2, hb⟩
        have hw2 := bstep hw1 hw1.size hb
        have b2 := b1.below hb (by omega)
        have hv1' := Rep.below hv1 hb
        clear hb b1 hw1 hv1 k0 k1 k2 k3
        have k0 := b2.c40
        have k1 := b2.c41
        have k2 := b2.c42
        have k3 := b2.c43
        obtain ⟨V2, c2, rfl, -, -⟩ := slice_inv hv2
        have HA : Hid (∀ i, i < l.length → ∃ x, (runF l r0 s0 order).1[i]? = some x ∧ 0 ≤ x ∧ x ≤ (l.getD i default).shr ∧ (s0 = 0 → x = (l.getD i default).shr) ∧
            ((runF l r1 s1 order).2 = 0 → r0 ≤ r1 → s0 ≤ s1 → ∃ y, (runF l r1 s1 order).1[i]? = some y ∧ y ≤ x)) := by
          intro i hi
          have hil : i < (runF l r0 s0 order).1.length := by rw [HAL.out]; exact hi
          have e1 : (runF l r0 s0 order).1[i] = (runTo l r0 s0 order order.length).getD i 0 := by
            rw [List.getD_eq_getElem?_getD]; simp only [HR.out]; rw [List.getElem?_eq_getElem (by rw [runTo_length]; exact hi)]; rfl
          refine ⟨_, List.getElem?_eq_getElem hil, ?_, ?_, ?_, ?_⟩
          · rw [e1]; exact (runTo_le HS.out HK.out HO.out _ (by rw [HOL.out]; exact Nat.le_refl _) i).1
          · rw [e1]; exact (runTo_le HS.out HK.out HO.out _ (by rw [HOL.out]; exact Nat.le_refl _) i).2
          · intro h0; rw [e1, h0]; exact runTo_stiff0 HO.out hi
          · intro h0 h3 h4
            obtain ⟨_, _, hR'⟩ := runF_zero h0
            have hil' : i < (runF l r1 s1 order).1.length := by rw [hR', runTo_length]; exact hi
            have e2 : (runF l r1 s1 order).1[i] = (runTo l r1 s1 order order.length).getD i 0 := by
              rw [List.getD_eq_getElem?_getD]; simp only [hR']; rw [List.getElem?_eq_getElem (by rw [runTo_length]; exact hi)]; rfl
            refine ⟨_, List.getElem?_eq_getElem hil', ?_⟩
            rw [e1, e2]
            exact runTo_mono h3 h4 hs0 HK.out HO.out _ (by rw [HOL.out]; exact Nat.le_refl _) i
        obtain ⟨mb, hmb⟩ : ∃ mb : Bool, mb = decide ((runF l r1 s1 order).2 = 0 ∧ r0 ≤ r1 ∧ s0 ≤ s1) := ⟨_, rfl⟩
        have HMB := Lib.hid hmb
        clear hmb
        go_upto_region 9 with fail
        go_cut [11] (fun s11 wx => s11 = .bool mb ∧ wx = w2)
        case first =>
          by_cases hmore : (runF l r1 s1 order).2 = 0 ∧ r0 ≤ r1 ∧ s0 ≤ s1
          · have HB : Hid (mb = true) := by show mb = true; rw [HMB.out]; exact decide_eq_true hmore
            obtain ⟨m0, m1, m2⟩ := hmore
            have hm0 : ((runF l r1 s1 order).2 == 0) = true := by simp [m0]
            clear m0
            go_wp2
            go_meet
            exact ⟨by rw [HB.out], by trivial⟩
          · have HB : Hid (mb = false) := by show mb = false; rw [HMB.out]; exact decide_eq_false hmore
            rcases or3 hmore with m0 | ⟨m0, m1⟩ | ⟨m0, m1, m2⟩
            · have hm0 : ((runF l r1 s1 order).2 == 0) = false := by simp [m0]
              clear m0 hmore
              go_wp2
              go_meet
              exact ⟨by rw [HB.out], by trivial⟩
            · have hm0 : ((runF l r1 s1 order).2 == 0) = true := by simp [m0]
              clear m0 hmore
              go_wp2
              go_meet
              exact ⟨by rw [HB.out], by trivial⟩
            · have hm0 : ((runF l r1 s1 order).2 == 0) = true := by simp [m0]
              clear m0 hmore
              go_wp2
              go_meet
              exact ⟨by rw [HB.out], by trivial⟩
        case rest =>
          obtain ⟨rfl, rfl⟩ := hcut
          clear k0 k1 k2 k3
          go_wp2_with fail
          go_loopw [12] (fun i wr => ∃ k : Nat, k ≤ l.length ∧ i = .int .i64 k ∧ Qt wc wr) (fun i _ => l.length - (intOf i).toNat)
          case atStart => exact ⟨0, Nat.zero_le _, rfl, Qt.refl _⟩
          case round =>
            obtain ⟨k, hk, rfl, hq⟩ := hrel
            have b3 := b2.qt hq
            have k0 := b3.c40
            have k1 := b3.c41
            have k2 := b3.c42
            have k3 := b3.c43
            by_cases hlt : k < l.length
            · obtain ⟨b, off, p, s, rfl, hx, -, g0, g1, -⟩ := beads_at (hq.rep (Rep.below hl hw2)) hlt
              obtain ⟨b', off', x, rfl, hy, -, g2, -⟩ := ints_at (hq.rep hv1') (k := k) (by rw [HAL.out]; exact hlt)
              obtain ⟨x', h3, hx0, hx1, hx2, hx3⟩ := HA.out k hlt
              obtain rfl : x' = x := by have := h3.symm.trans hy.out; injection this
              rw [getD_of hx.out] at hx1 hx2
              simp only at hx1 hx2
              have hkA : k < (runF l r0 s0 order).1.length := by rw [HAL.out]; exact hlt
              have hd0 : decide (x' < 0) = false := decide_eq_false (by omega)
              have hd1 : decide (s < x') = false := decide_eq_false (by omega)
              have HX3 := Lib.hid hx3
              clear hx3
              by_cases hs : s0 = 0
              · have hs' : (s0 == 0) = true := by simp [hs]
                have hxs : (x' != s) = false := by have := hx2 hs; simp [this]
                clear hs hx2 h3
                cases mb
                · go_wp2
                  go_quiet (fail)
                  go_wp2
                  go_roundw
                  case rel => exact ⟨k + 1, by omega, by go_num, hq.drewN _⟩
                  case measure => simp [intOf]; omega
                · obtain ⟨m0, m1, m2⟩ := of_decide_eq_true HMB.out.symm
                  obtain ⟨y, h4, hyx⟩ := HX3.out m0 m1 m2
                  have hbl2 : ((((runF l r1 s1 order).1.length : Nat) : Int) != (l.length : Int)) = false := by
                    obtain ⟨_, _, hR'⟩ := runF_zero m0
                    rw [hR', runTo_length]; simp
                  have hkB : k < (runF l r1 s1 order).1.length := lt_of_get h4
                  obtain ⟨b4, off4, y', rfl, hy4, -, g4, -⟩ := ints_at (hq.rep hv2) (k := k) hkB
                  obtain rfl : y' = y := by have := hy4.out.symm.trans h4; injection this
                  have hd2 : decide (x' < y') = false := decide_eq_false (by omega)
                  clear h4 m0
                  go_wp2
                  go_quiet (fail)
                  go_wp2
                  go_roundw
                  case rel => exact ⟨k + 1, by omega, by go_num, hq.drewN _⟩
                  case measure => simp [intOf]; omega
              · have hs' : (s0 == 0) = false := by simp [hs]
                clear hs hx2 h3
                cases mb
                · go_wp2
                  go_quiet (fail)
                  go_wp2
                  go_roundw
                  case rel => exact ⟨k + 1, by omega, by go_num, hq.drewN _⟩
                  case measure => simp [intOf]; omega
                · obtain ⟨m0, m1, m2⟩ := of_decide_eq_true HMB.out.symm
                  obtain ⟨y, h4, hyx⟩ := HX3.out m0 m1 m2
                  have hbl2 : ((((runF l r1 s1 order).1.length : Nat) : Int) != (l.length : Int)) = false := by
                    obtain ⟨_, _, hR'⟩ := runF_zero m0
                    rw [hR', runTo_length]; simp
                  have hkB : k < (runF l r1 s1 order).1.length := lt_of_get h4
                  obtain ⟨b4, off4, y', rfl, hy4, -, g4, -⟩ := ints_at (hq.rep hv2) (k := k) hkB
                  obtain rfl : y' = y := by have := hy4.out.symm.trans h4; injection this
                  have hd2 : decide (x' < y') = false := decide_eq_false (by omega)
                  clear h4 m0
                  go_wp2
                  go_quiet (fail)
                  go_wp2
                  go_roundw
                  case rel => exact ⟨k + 1, by omega, by go_num, hq.drewN _⟩
                  case measure => simp [intOf]; omega
            · by_cases hl0 : 0 < l.length
              · obtain ⟨b, off, i, rfl, hi, -, g0, -⟩ := ints_at (hq.rep (Rep.below ho hw2)) (k := 0) (by rw [HOL.out]; exact hl0)
                rw [Nat.add_zero] at g0
                have HX := Lib.hid ((orderB_yes HO.out).2.1 i (List.mem_of_getElem? hi.out))
                have hi0 := HX.out.1
                have hi1 := HX.out.2
                obtain ⟨i, rfl⟩ := Int.eq_ofNat_of_zero_le hi0
                have hil : i < l.length := by omega
                have hiA : i < (runF l r0 s0 order).1.length := by rw [HAL.out]; exact hil
                have hoL : 0 < order.length := by rw [HOL.out]; exact hl0
                obtain ⟨b, off, p, s, rfl, hx, -, g1, g2, -⟩ := beads_at (hq.rep (Rep.below hl hw2)) hil
                obtain ⟨b', off', x, rfl, hy, -, g3, -⟩ := ints_at (hq.rep hv1') (k := i) hiA
                have hxs : (x != s) = false := by
                  have h := runTo_first (r := r0) (s := s0) HO.out hl0
                  rw [getD_of' hi.out, Int.toNat_natCast, getD_of hx.out, ← HR.out, getD_of' hy.out] at h
                  simp [h]
                have hd0 : decide ((0 : Int) < (l.length : Int)) = true := decide_eq_true (by omega)
                have hd1 : decide ((i : Int) < 0) = false := decide_eq_false (by omega)
                have hd2 : decide ((l.length : Int) ≤ (i : Int)) = false := decide_eq_false (by omega)
                go_wp2
                go_quiet (fail)
                go_wp2_with (go_at_call 9; refine (alive_any _).mono ?_; rintro e w3 ⟨rfl, hb⟩)
                go_ret
                exact ⟨rfl, bstep (bstep hw2 hw2.size ((hq.drewN _).below _)) (Nat.le_trans hw2.size (((hq.drewN _).below 0).size)) hb⟩
              · have hd0 : decide ((0 : Int) < (l.length : Int)) = false := decide_eq_false (by omega)
                have hl0' : ¬ (0 : Int) < (l.length : Int) := by omega
                go_wp2
                go_quiet (fail)
                go_wp2_with (go_at_call 9; refine (alive_any _).mono ?_; rintro e w3 ⟨rfl, hb⟩)
                go_ret
                exact ⟨rfl, bstep (bstep hw2 hw2.size ((hq.drewN _).below _)) (Nat.le_trans hw2.size (((hq.drewN _).below 0).size)) hb⟩
      · have hb1 : ((runF l r0 s0 order).2 != 0) = true := by simp [hz]
        have H1 := Lib.hid (runF_one hz)
        clear hz
        go_enter Try.func5, Try.ntmps5
        go_wp2_with fail
        refine (run_any _ _ _ _ _ _ _ (Rep.below hl hw0) (Rep.below ho hw0)).mono ?_
        rintro e w1 ⟨v1, rfl, hv1, hb⟩
        have hw1 := bstep hw0 hw0.size hb
        clear hb
        obtain ⟨V1, c1, rfl, -, -⟩ := slice_inv hv1
        have hb2 : ((((runF l r0 s0 order).1.length : Nat) : Int) == 0) = true := by rw [H1.out]; rfl
        go_wp2_with (go_at_call 9; refine (alive_any _).mono ?_; rintro e w2 ⟨rfl, hb⟩)
        go_ret
        exact ⟨rfl, bstep hw1 hw1.size hb⟩
end Go.Proofs.Ytlhkidiieajamaa

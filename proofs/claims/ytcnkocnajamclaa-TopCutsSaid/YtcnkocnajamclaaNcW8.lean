/- Chapter 27: Make, by walking the program's text. -/
import Derived.Test.YtcnkocnajamclaaNcW7
import Derived.Test.YtcnkocnajamclaaNcMk
import Derived.Test.YtcnkocnajamclaaTorX2
namespace Go.Proofs.Ytcnkocnajamclaa
open Go Go.RowKit

theorem ownS_one {w : World} {base : Nat} {v : Value} {xs : List Stp} {o x y : Int} (h : w.ownsRow base 86 3 v (xs.length + 1) (xs.flatMap stEnc ++ [.int .i64 o, .int .i64 x, .int .i64 y])) : OwnS w base v (xs ++ [(o, (x, y))]) := ownS_app h
theorem three_one (a b c : Int) : ∀ u ∈ [Value.int .i64 a, Value.int .i64 b, Value.int .i64 c], u.oneCell' = true := fun u hu => by
  simp at hu; rcases hu with rfl | rfl | rfl <;> rfl
set_option maxRecDepth 100000 in
set_option maxHeartbeats 4000000 in
theorem make_any (vs vo : Value) (shapes : List Shp) (order : List Pt) (w : World) (hs : shpsR.R w (Lt w) shapes [vs]) (ho : prR.slice.R w (Lt w) order [vo]) (hS : SmallS shapes) (hR : SmallR shapes) :
    Calls Try.prog 15 #[vs, vo] w (MakePost (makeF shapes order) w) := by
  obtain ⟨A, c, rfl, hm, -⟩ := slice_inv hs
  obtain ⟨B, d, rfl, hmo, -⟩ := slice_inv ho
  by_cases hck : checkT (contoursF shapes) order = 0
  · obtain ⟨h288, hoe, hfe⟩ := checkT_zero hck
    have HMF := Lib.hid (makeF_yes hck)
    have HCK := Lib.hid hck
    have HM : Hid (∀ c ∈ order, c ∈ contoursF shapes) := fun c h => first_mem hfe c h
    have hol : order.length ≤ 288 := by omega
    obtain ⟨i0, hinf, hz0, hz1, hz2⟩ := info_parts step_info
    clear hck hfe h288 hoe
    go_enter Try.func15, Try.ntmps15
    go_wp2_with fail
    have hC := checkT_any _ _ shapes order w hs ho hS
    rw [HCK.out] at hC
    refine hC.mono ?_
    rintro e w1 ⟨rfl, hb1⟩
    clear hC
    go_wp2
    go_loopw [7, 23] (fun v iv wr => ∃ k : Nat, k ≤ order.length ∧ iv = .int .i64 k ∧ OwnS wr w.heap.size v (makeT shapes (order.take k)) ∧ Below w.heap.size w wr) (fun _ iv _ => order.length - (intOf iv).toNat)
    case atStart => exact ⟨0, Nat.zero_le _, rfl, World.ownsRow_nil _ _ _ _, hb1⟩
    case round =>
      obtain ⟨k, hk, rfl, hown, hb⟩ := hrel
      have hz := hb.size
      by_cases hlt : k < order.length
      · obtain ⟨bo, oo, x, y, rfl, hx, hbD, c0, c1, -⟩ := pairs_at (Rep.at_ ho hb) hlt
        have hki : (k : Int) < (order.length : Int) := by omega
        have hmem := HM.out (x, y) (List.mem_of_getElem? hx.out)
        have hlen := make_len hR (order.take k) (fun c hc => HM.out c (List.mem_of_mem_take hc))
        have hlen2 : (makeT shapes (order.take k)).length ≤ 288864 := by
          rw [List.length_take] at hlen
          have : min k order.length * 1003 ≤ 288 * 1003 := Nat.mul_le_mul_right _ (by omega)
          omega
        obtain ⟨pre, hpre⟩ : ∃ r, makeT shapes (order.take k) = r := ⟨_, rfl⟩
        obtain ⟨⟨sx, sy⟩, hbg⟩ : ∃ r, beginF shapes (x, y) = r := ⟨_, rfl⟩
        obtain ⟨p, hp⟩ : ∃ r, ringC shapes (x, y) = r := ⟨_, rfl⟩
        have hpl : p.length ≤ 1000 := by rw [← hp]; exact hR (x, y) hmem
        obtain ⟨hbm, hok⟩ := begin_mem hmem
        rw [hbg, hp] at hbm
        rw [hp] at hok
        obtain ⟨f, hfi, hfg, -⟩ := idxC_mem hbm
        have hfl := lt_of_get hfg
        have HST : Hid (startF shapes (x, y) = ((sx, sy), true)) := by
          show _ = _
          rw [start_yes (by simpa using hmem), hbg]
        have HSC : Hid (stepsC shapes (x, y) = (1, (sx, sy)) :: (2, (0, 0)) :: (cutsP p f ++ [(4, (0, 0))])) := by
          show _ = _
          unfold stepsC
          rw [hbg, hp, hfi, Int.toNat_natCast]
        have HMT : Hid (makeT shapes (order.take (k + 1)) = pre ++ stepsC shapes (x, y)) := by show _ = _; rw [make_take hx.out, hpre]
        rw [hpre] at hown hlen2
        have HFI := Lib.hid hfi
        have HP := Lib.hid hp
        have HMEM := Lib.hid hmem
        have wA := (Below.refl wr.heap.size wr).alloc (Nat.le_refl _) (.cells #[.int .i64 x, .int .i64 y] 78)
        have bc := Blk.new wr 78 #[.int .i64 x, .int .i64 y]
        have hownA := own_below hown wA
        have hbA := bstep hb hz wA
        have k0 := bc.c20
        have k1 := bc.c21
        obtain ⟨bx, hbx⟩ : ∃ b, b = wr.heap.size := ⟨_, rfl⟩
        have HBX := Lib.hid hbx
        clear hlen hpre hbg hp hbm hok hfi hfg hmem hown hb wA hbx
        go_wp2_with fail
        have hC := start_any _ _ _ shapes x y _ (Rep.below hs hbA) hS
        rw [HST.out] at hC
        refine hC.mono ?_
        rintro e w3 ⟨he, hq⟩
        have he : e = .returned (.tuple #[.agg #[.int .i64 sx, .int .i64 sy], .bool true]) := he
        subst he
        have bc3 := bc.below hq bc.lt
        have hown3 := own_below hownA hq
        have hb3 := bstep hbA hbA.size hq
        have bs := Blk.new w3 74 #[.int .i64 sx, .int .i64 sy]
        have hb4 := hb3.alloc hb3.size (.cells #[.int .i64 sx, .int .i64 sy] 74)
        have hown4 := World.ownsRow.alloc hown3 (.cells #[.int .i64 sx, .int .i64 sy] 74)
        have bc4 := bc3.alloc (.cells #[.int .i64 sx, .int .i64 sy] 74)
        obtain ⟨w4, hw4⟩ : ∃ W, W = w3.alloc (.cells #[.int .i64 sx, .int .i64 sy] 74) := ⟨_, rfl⟩
        obtain ⟨bp, hbp⟩ : ∃ b, b = w3.heap.size := ⟨_, rfl⟩
        rw [← hw4, ← hbp] at bs
        rw [← hw4] at hb4 hown4 bc4
        rw [← HBX.out] at bc4
        have HW4 := Lib.hid hw4
        have HBP := Lib.hid hbp
        have bx0 := bc3.c20
        have bx1 := bc3.c21
        rw [← HBX.out] at bx0 bx1
        have hx3 := bc3.lt
        rw [← HBX.out] at hx3
        have hbxn : ¬ bx = w3.heap.size := by omega
        clear hw4 hbp hC hq hbA hownA bc k0 k1 hb3 hown3 bc3 c0 c1
        rw [← HBX.out]
        go_wp2_with fail
        rw [← HW4.out, ← HBP.out]
        refine (contour_any _ _ _ shapes x y _ (Lt w) (fun b h => Nat.lt_of_lt_of_le h hb4.size) (Rep.at_ hs hb4) HMEM.out hS).mono ?_
        rintro e w5 ⟨O, no, co, rfl, hno, hr, hq⟩
        rw [HP.out] at hno hr
        subst hno
        have HRW : Hid (ptsR.R w (Lt w) p [.slice O p.length co]) := Rep.keep _ (fun b h => (hb4.block b h).symm) hr
        have bs5 := bs.below hq bs.lt
        have hown5 := own_below hown4 hq
        have hb5 := bstep hb4 hb4.size hq
        have s0 := bs5.c20
        have s1 := bs5.c21
        clear hq hr bs hown4 hb4 bc4 bx0 bx1 hx3 hbxn
        go_wp2_with fail
        have hC := indexP_any _ p sx sy _ (Rep.below HRW.out hb5)
        rw [HFI.out] at hC
        refine hC.mono ?_
        rintro e w6 ⟨rfl, hq⟩
        have bs6 := bs5.below hq bs5.lt
        have hown6 := own_below hown5 hq
        have hb6 := bstep hb5 hb5.size hq
        have hz6 := hb6.size
        have s0 := bs6.c20
        have s1 := bs6.c21
        have HB6 := Lib.hid hb6
        clear hC hq bs5 hown5 hb5 HST HFI
        go_wp2_with (at_builtin; refine wpList_append_own _ rfl _ _ 47 rfl w.heap.size 86 i0 (.agg #[.int .i64 0, .int .i64 0, .int .i64 0]) 3 24 Try.underlying47 hinf hz0 hz1 hz2 rfl (by decide) _ _ _ rfl (World.ownsRow.alloc hown6 _) ⟨w6.heap.size, 0, none⟩ 2 2 [.int .i64 1, .int .i64 sx, .int .i64 sy, .int .i64 2, .int .i64 0, .int .i64 0] (by rfl) rfl (new_cells w6 _ _) (fun u hu => by simp at hu; rcases hu with rfl | rfl | rfl | rfl | rfl | rfl <;> rfl) (by unfold maxLen; omega) (by omega) (by simp; omega) ?_; intro v7 w7 hown7 hg7 _)
        have hown7' : OwnS w7 w.heap.size v7 (pre ++ [(1, (sx, sy)), (2, (0, 0))]) := ownS_app (ys := [(1, (sx, sy)), (2, (0, 0))]) hown7
        have hb7 := (HB6.out.alloc HB6.out.size (.cells #[.int .i64 1, .int .i64 sx, .int .i64 sy, .int .i64 2, .int .i64 0, .int .i64 0] 86)).grown hg7 (by simp; omega) (fun j hj => (World.ownsRow.lt hown6 j hj).1)
        obtain ⟨pre2, hpre2⟩ : ∃ r, pre ++ [(1, (sx, sy)), (2, (0, 0))] = r := ⟨_, rfl⟩
        rw [hpre2] at hown7'
        have HP2 := Lib.hid hpre2
        have hl2 : pre2.length ≤ 288866 := by rw [← hpre2]; simp; omega
        clear hown7 hg7 hown6 hb6 s0 s1 bs6 hz6 hpre2 hlen2 HB6
        go_loopw [7, 47] (fun v jv wr => ∃ j : Nat, j ≤ p.length ∧ jv = .int .i64 j ∧ OwnS wr w.heap.size v (pre2 ++ (cutsP p f).take j) ∧ Below w.heap.size w wr) (fun _ jv _ => p.length - (intOf jv).toNat)
        case atStart => exact ⟨0, Nat.zero_le _, rfl, by rw [List.take_zero, List.append_nil]; exact hown7', hb7⟩
        case round =>
          obtain ⟨j, hj, rfl, hown, hb⟩ := hrel
          have hz := hb.size
          have hcl : (pre2 ++ (cutsP p f).take j).length ≤ 289866 := by rw [List.length_append, List.length_take]; omega
          by_cases hjl : j < p.length
          · obtain ⟨qi, hqi⟩ : ∃ r, (f + j + 1) % p.length = r := ⟨_, rfl⟩
            have hql : qi < p.length := by rw [← hqi]; exact Nat.mod_lt _ (by omega)
            have hrem : ((f : Int) + (j : Int) + 1) % (p.length : Int) = (qi : Int) := by rw [← hqi]; push_cast; rfl
            obtain ⟨bq, oq, qx, qy, rfl, hqx, hbqD, d0, d1, -⟩ := pairs_at (Rep.at_ HRW.out hb) hql
            have hbql : bq < w.heap.size := hbqD
            have HCT : Hid ((cutsP p f).take (j + 1) = (cutsP p f).take j ++ [(3, (qx, qy))]) := cuts_take (by rw [hqi]; exact hqx.out) hjl
            have hji : (j : Int) < (p.length : Int) := by omega
            have hqI : (qi : Int) < (p.length : Int) := by omega
            have hne0 : ¬ (p.length : Int) = 0 := by omega
            have HBB := Lib.hid hb
            clear hqi hb
            go_wp2_with (at_builtin; refine wpList_append_own _ rfl _ _ 47 rfl w.heap.size 86 i0 (.agg #[.int .i64 0, .int .i64 0, .int .i64 0]) 3 24 Try.underlying47 hinf hz0 hz1 hz2 rfl (by decide) _ _ _ rfl (World.ownsRow.alloc hown _) ⟨wr.heap.size, 0, none⟩ 1 1 [.int .i64 3, .int .i64 qx, .int .i64 qy] (by rfl) rfl (new_cells wr _ _) (three_one _ _ _) (by unfold maxLen; omega) (by omega) (by simp; omega) ?_; intro v8 w8 hown8 hg8 _)
            have hb8 := (HBB.out.alloc HBB.out.size (.cells #[.int .i64 3, .int .i64 qx, .int .i64 qy] 86)).grown hg8 (by simp; omega) (fun j hj => (World.ownsRow.lt hown j hj).1)
            go_roundw
            case rel => exact ⟨j + 1, by omega, by go_num, by rw [HCT.out, ← List.append_assoc]; exact ownS_one hown8, hb8⟩
            case measure => simp [intOf]; omega
          · have hjl2 : j = p.length := by omega
            have HTK : Hid ((cutsP p f).take j = cutsP p f) := by show _ = _; rw [hjl2]; exact List.take_of_length_le (by rw [cuts_len]; exact Nat.le_refl _)
            have hji : ¬ (j : Int) < (p.length : Int) := by omega
            have HBB := Lib.hid hb
            clear hjl2 hb
            go_wp2_with (at_builtin; refine wpList_append_own _ rfl _ _ 47 rfl w.heap.size 86 i0 (.agg #[.int .i64 0, .int .i64 0, .int .i64 0]) 3 24 Try.underlying47 hinf hz0 hz1 hz2 rfl (by decide) _ _ _ rfl (World.ownsRow.alloc hown _) ⟨wr.heap.size, 0, none⟩ 1 1 [.int .i64 4, .int .i64 0, .int .i64 0] (by rfl) rfl (new_cells wr _ _) (three_one _ _ _) (by unfold maxLen; omega) (by omega) (by simp; omega) ?_; intro v8 w8 hown8 hg8 _)
            have hb8 := (HBB.out.alloc HBB.out.size (.cells #[.int .i64 4, .int .i64 0, .int .i64 0] 86)).grown hg8 (by simp; omega) (fun j hj => (World.ownsRow.lt hown j hj).1)
            have hown9 := ownS_one hown8
            rw [HTK.out, ← HP2.out] at hown9
            go_roundw
            case rel => exact ⟨k + 1, by omega, by go_num, by rw [HMT.out, HSC.out]; simpa using hown9, hb8⟩
            case measure => simp [intOf]; omega
      · have hkl : k = order.length := by omega
        rw [hkl, List.take_length] at hown
        have hki : ¬ (k : Int) < (order.length : Int) := by omega
        have hrep := own_steps hown (make_bd HM.out)
        clear hkl
        go_wp2
        go_ret2
        rw [HMF.out]
        exact ⟨_, rfl, hrep, hb⟩
  · have HMF := Lib.hid (makeF_bad hck)
    obtain ⟨ck, hc⟩ : ∃ r, checkT (contoursF shapes) order = r := ⟨_, rfl⟩
    rw [hc] at hck HMF
    have hcb : (ck != 0) = true := ine_t hck
    have HCK := Lib.hid hc
    clear hck hc
    go_enter Try.func15, Try.ntmps15
    go_wp2_with fail
    have hC := checkT_any _ _ shapes order w hs ho hS
    rw [HCK.out] at hC
    refine hC.mono ?_
    rintro e w1 ⟨rfl, hb1⟩
    go_wp2
    go_ret2
    rw [HMF.out]
    exact ⟨_, rfl, Rep.slice_nil _ _ _, hb1⟩
end Go.Proofs.Ytcnkocnajamclaa

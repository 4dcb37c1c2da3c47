/- Chapter 26: the starts of contours, and whether a contour is permitted next, by walking the reference's text. -/
import Derived.Test.YtpefmbjaolcapaaTorZ3
import Derived.Test.YtpefmbjaolcapaaTorX6
import Derived.Test.YtpefmbjaolcapaaTorSort
import Derived.IntWalk
namespace Go.Proofs.Ytpefmbjaolcapaa
open Go Go.RowKit

def StartsPost (xs : List Pt) (w : World) (e : Ending) (w' : World) : Prop := ∃ v, e = .returned v ∧ OwnP w' w.heap.size 28 v xs ∧ Below w.heap.size w w'
set_option maxRecDepth 100000 in
set_option maxHeartbeats 1000000 in
theorem starts_any (A : Option Addr) (n c : Nat) (vl : Value) (shapes : List Shp) (l : List Pt) (w : World) (hs : shpsR.R w (Lt w) shapes [.slice A n c]) (hl : prR.slice.R w (Lt w) l [vl]) (hmem : ∀ x ∈ l, x ∈ contoursF shapes) (hS : SmallS shapes) (hlen : l.length ≤ 1001000) :
    Calls Try.prog 42 #[.slice A n c, vl] w (StartsPost (l.map (beginF shapes)) w) := by
  obtain ⟨B, d, rfl, hml, -⟩ := slice_inv hl
  have HM := Lib.hid hmem
  obtain ⟨i0, hinf, hz0, hz1, hz2⟩ := info_parts pt_info
  clear hmem
  go_enter Try.func42, Try.ntmps42
  go_wp2
  go_loopw [5, 6] (fun v j wr => ∃ k : Nat, k ≤ l.length ∧ j = .int .i64 k ∧ OwnP wr w.heap.size 28 v ((l.take k).map (beginF shapes)) ∧ Below w.heap.size w wr) (fun _ j _ => l.length - (intOf j).toNat)
  case atStart => exact ⟨0, Nat.zero_le _, rfl, World.ownsRow_nil _ _ _ _, Below.refl _ _⟩
  case round =>
    obtain ⟨k, hk, rfl, hown, hb⟩ := hrel
    have hz := hb.size
    by_cases hlt : k < l.length
    · obtain ⟨bo, oo, x, y, rfl, hxk, hbD, c0, c1, -⟩ := pairs_at (Rep.at_ hl hb) hlt
      have hmc := HM.out _ (List.mem_of_getElem? hxk.out)
      obtain ⟨⟨px, py⟩, hbg⟩ : ∃ r, beginF shapes (x, y) = r := ⟨_, rfl⟩
      have HST : Hid (startF shapes (x, y) = ((px, py), true)) := by
        show _ = _
        rw [start_yes (by simpa using hmc), hbg]
      have HBG := Lib.hid hbg
      clear hmc hbg
      have hki : (k : Int) < (l.length : Int) := by omega
      go_wp2_with fail
      have hC := refStart_any _ _ _ shapes x y _ (Rep.below hs hb) hS
      rw [HST.out] at hC
      refine hC.mono ?_
      rintro e w3 ⟨he, hq⟩
      have he : e = .returned (.tuple #[.agg #[.int .i64 px, .int .i64 py], .bool true]) := he
      subst he
      have hb3 := bstep hb hb.size hq
      have hz3 := hb3.size
      have hb4 := hb3.alloc hb3.size (.cells #[.int .i64 px, .int .i64 py] 28)
      have hown3 := World.ownsRow.alloc (own_below hown hq) (.cells #[.int .i64 px, .int .i64 py] 28)
      have hown4 := World.ownsRow.alloc hown3 (.cells #[.int .i64 px, .int .i64 py] 28)
      have bp3 := Blk.new w3 28 #[.int .i64 px, .int .i64 py]
      have p0 := bp3.c20
      have p1 := bp3.c21
      have hnew := new_pr (w3.alloc (.cells #[.int .i64 px, .int .i64 py] 28)) px py 28
      rw [World.size_alloc] at hnew
      have htl : ((l.take k).map (beginF shapes)).length = k := by rw [List.length_map, List.length_take]; omega
      have HB4 := Lib.hid hb4
      clear hC hq bp3 hb3 hb4 hown hown3
      go_wp2_with (at_builtin; refine wpList_append_own _ rfl _ _ 41 rfl w.heap.size 28 i0 (.agg #[.int .i64 0, .int .i64 0]) 2 16 Try.underlying41 hinf hz0 hz1 hz2 rfl (by decide) _ _ _ rfl hown4 ⟨w3.heap.size + 1, 0, none⟩ 1 1 [.int .i64 px, .int .i64 py] (by rfl) rfl hnew (pr_one _ _) (by unfold maxLen; omega) (by omega) (by simp; omega) ?_; intro v8 w8 hown8 hg8 _)
      have hb8 := (HB4.out.alloc HB4.out.size (.cells #[.int .i64 px, .int .i64 py] 28)).grown hg8 (by simp; omega) (fun j hj => (World.ownsRow.lt hown4 j hj).1)
      have htk : (l.take (k + 1)).map (beginF shapes) = (l.take k).map (beginF shapes) ++ [(px, py)] := by
        rw [take_one hxk.out, List.map_append, List.map_cons, List.map_nil, HBG.out]
      go_roundw
      case rel => exact ⟨k + 1, by omega, by go_num, by rw [htk]; exact ownP_snoc hown8, hb8⟩
      case measure => simp [intOf]; omega
    · have hkl : k = l.length := by omega
      rw [hkl, List.take_length] at hown
      clear hkl
      go_wp2
      go_ret
      exact ⟨_, rfl, hown, hb⟩
theorem bit0_all : ∀ s : Fin 512, ∀ k : Fin 9, (bits BinOp.and IntKind.i64 (((s : Nat) : Int) / 2 ^ (k : Nat)) 1 == 0) = !inS s k := by decide +kernel
theorem bit1_all : ∀ s : Fin 512, ∀ k : Fin 9, (bits BinOp.and IntKind.i64 (((s : Nat) : Int) / 2 ^ (k : Nat)) 1 == 1) = inS s k := by decide +kernel
theorem bit0_at {s k : Nat} (hs : s < 512) (hk : k < 9) : (bits BinOp.and IntKind.i64 ((s : Int) / 2 ^ k) 1 == 0) = !inS s k := bit0_all ⟨s, hs⟩ ⟨k, hk⟩
theorem bit1_at {s k : Nat} (hs : s < 512) (hk : k < 9) : (bits BinOp.and IntKind.i64 ((s : Int) / 2 ^ k) 1 == 1) = inS s k := bit1_all ⟨s, hs⟩ ⟨k, hk⟩
set_option maxRecDepth 100000 in
set_option maxHeartbeats 2000000 in
theorem permitted_any (A B R : Option Addr) (c nb d nr r : Nat) (all : List Pt) (s i : Nat) (w : World) (ra : prR.slice.R w (Lt w) all [.slice A all.length c]) (hN : all.Nodup) (h9 : all.length ≤ 9) (hs : s < 512) (hi : i < all.length) (hp : ∀ x ∈ all, 0 ≤ x.2) :
    Calls Try.prog 44 #[.agg #[.slice A all.length c, .slice B nb d, .slice R nr r], .int .i64 s, .int .i64 i] w (Ret (.bool (mayS all s i)) w) := by
  obtain ⟨b, off, x, y, rfl, hx, hbD, c0, c1, -⟩ := pairs_at ra hi
  have hbl : b < w.heap.size := hbD
  have hbn : ¬ b = w.heap.size := by omega
  have hy : 0 ≤ y := hp (x, y) (List.mem_of_getElem? hx.out)
  have HMS : Hid (mayS all s i = (!inS s i && freeC all (ofS all s) (x, y))) := mayS_eq hx.out
  have hbi := bit1_at hs (show i < 9 by omega)
  have hw0 : Below w.heap.size w (w.alloc (.cells #[.slice (some ⟨b, off, none⟩) all.length c, .slice B nb d, .slice R nr r] 74)) := (Below.refl _ _).alloc (Nat.le_refl _) _
  have bk := Blk.new w 74 #[.slice (some ⟨b, off, none⟩) all.length c, .slice B nb d, .slice R nr r]
  have HP := Lib.hid hp
  have HRA := Lib.hid ra
  clear hp
  rcases Bool.eq_false_or_eq_true (inS s i) with hin | hin
  · rw [hin] at hbi
    rw [hin] at HMS
    go_enter Try.func44, Try.ntmps44
    go_wp2
    go_ret
    exact ⟨ret_bool (by rw [HMS.out]; rfl), hw0⟩
  · rw [hin] at hbi
    rw [hin] at HMS
    by_cases hy0 : 0 < y
    · have HF := Lib.hid (freeC_ring (all := all) (before := ofS all s) (x := x) hy0)
      have b0 : (y == 0) = false := ieq_f (by omega)
      clear hin
      go_enter Try.func44, Try.ntmps44
      go_wp2
      go_loopw [7] (fun j wr => ∃ k : Nat, k ≤ all.length ∧ j = .int .i64 k ∧ Blk wr w.heap.size 74 #[.slice (some ⟨b, off, none⟩) all.length c, .slice B nb d, .slice R nr r] ∧ Below w.heap.size w wr) (fun j _ => all.length - (intOf j).toNat)
      case atStart => exact ⟨0, Nat.zero_le _, rfl, bk, hw0⟩
      case round =>
        obtain ⟨k, hk, rfl, bk, hb⟩ := hrel
        have k0 : wr.cell? ⟨w.heap.size, 0, none⟩ = some (.slice (some ⟨b, off, none⟩) all.length c) := bk.cell 0
        have c0 := (hb.cell (p := ⟨b, off + i * 2, none⟩) hbl).trans c0
        have c1 := (hb.cell (p := ⟨b, off + i * 2 + 1, none⟩) hbl).trans c1
        have hii : (i : Int) < (all.length : Int) := by omega
        by_cases hlt : k < all.length
        · have hki : (k : Int) < (all.length : Int) := by omega
          go_wp2
          go_quiet (fail)
          go_wp2
          go_roundw
          case rel => exact ⟨k + 1, by omega, by go_num, bk.drewN _, below_drewN hb _⟩
          case measure => simp [intOf]; omega
        · go_wp2
          go_ret
          exact ⟨ret_bool (by rw [HMS.out, HF.out]; rfl), hb⟩
    · obtain rfl : y = 0 := by omega
      have HF := Lib.hid (freeC_all (all := all) (before := ofS all s) (x := x) hy0)
      clear hy hy0 hin
      go_enter Try.func44, Try.ntmps44
      go_wp2
      go_loopw [7] (fun j wr => ∃ k : Nat, k ≤ all.length ∧ j = .int .i64 k ∧ Hid ((all.take k).all (okAt (ofS all s) x) = true) ∧ Blk wr w.heap.size 74 #[.slice (some ⟨b, off, none⟩) all.length c, .slice B nb d, .slice R nr r] ∧ Below w.heap.size w wr) (fun j _ => all.length - (intOf j).toNat)
      case atStart => exact ⟨0, Nat.zero_le _, rfl, rfl, bk, hw0⟩
      case round =>
        obtain ⟨k, hk, rfl, hall, bk, hb⟩ := hrel
        have k0 : wr.cell? ⟨w.heap.size, 0, none⟩ = some (.slice (some ⟨b, off, none⟩) all.length c) := bk.cell 0
        have c0 := (hb.cell (p := ⟨b, off + i * 2, none⟩) hbl).trans c0
        have c1 := (hb.cell (p := ⟨b, off + i * 2 + 1, none⟩) hbl).trans c1
        have hii : (i : Int) < (all.length : Int) := by omega
        by_cases hlt : k < all.length
        · obtain ⟨p, q, hxk, d0, d1⟩ := pairs_more (Rep.below HRA.out hb) hlt
          have hki : (k : Int) < (all.length : Int) := by omega
          have hct : (ofS all s).contains (p, q) = inS s k := contains_ofS hN hxk.out
          have hbk := bit0_at hs (show k < 9 by omega)
          by_cases e2 : 0 < q
          · have b2 : decide (0 < q) = true := decide_eq_true e2
            by_cases e1 : p = x
            · have b1 : (p == x) = true := ieq_t e1
              rcases Bool.eq_false_or_eq_true (inS s k) with hc | hc
              · have HO : Hid (okAt (ofS all s) x (p, q) = true) := by show okAt _ x (p, q) = true; simp only [okAt, hct, hc, Bool.or_true]
                rw [hc] at hbk
                clear hct hc e1
                go_wp2
                go_quiet (fail)
                go_wp2
                go_roundw
                case rel => exact ⟨k + 1, by omega, by go_num, all_take_succ hall.out hxk.out HO.out, bk.drewN _, below_drewN hb _⟩
                case measure => simp [intOf]; omega
              · have HO : Hid (okAt (ofS all s) x (p, q) = false) := by show okAt _ x (p, q) = false; simp only [okAt, hct, hc, b1, b2]; rfl
                rw [hc] at hbk
                clear hct hc e1
                go_wp2
                go_quiet (fail)
                go_wp2
                go_ret
                exact ⟨ret_bool (by rw [HMS.out, HF.out, all_bad hxk.out HO.out]; rfl), below_drewN hb _⟩
            · have b1 : (p == x) = false := ieq_f e1
              have HO : Hid (okAt (ofS all s) x (p, q) = true) := by show okAt _ x (p, q) = true; simp only [okAt, b1, Bool.false_and]; rfl
              clear e1 hct hbk
              go_wp2
              go_quiet (fail)
              go_wp2
              go_roundw
              case rel => exact ⟨k + 1, by omega, by go_num, all_take_succ hall.out hxk.out HO.out, bk.drewN _, below_drewN hb _⟩
              case measure => simp [intOf]; omega
          · have b2 : decide (0 < q) = false := decide_eq_false e2
            have HO : Hid (okAt (ofS all s) x (p, q) = true) := by show okAt _ x (p, q) = true; simp only [okAt, b2, Bool.and_false]; rfl
            clear hct hbk
            go_wp2
            go_quiet (fail)
            go_wp2
            go_roundw
            case rel => exact ⟨k + 1, by omega, by go_num, all_take_succ hall.out hxk.out HO.out, bk.drewN _, below_drewN hb _⟩
            case measure => simp [intOf]; omega
        · go_wp2
          go_ret
          have h3 := hall.out
          rw [List.take_of_length_le (by omega)] at h3
          exact ⟨ret_bool (by rw [HMS.out, HF.out, h3]; rfl), hb⟩
end Go.Proofs.Ytpefmbjaolcapaa

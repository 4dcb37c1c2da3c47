/- Chapter 26: Contours, by walking the reference's text. -/
import Derived.Test.YtpefmbjaolcapaaTorW3
namespace Go.Proofs.Ytpefmbjaolcapaa
open Go Go.RowKit

theorem ring0 (s : Shp) : ringOf s 0 = s.1 := rfl
theorem ring_hole {s : Shp} {m : Nat} {p : List Pt} (h : s.2[m]? = some p) : ringOf s (m + 1) = p := by
  unfold ringOf; rw [if_neg (by omega), Nat.add_sub_cancel, getD_of' h]
theorem ownP_snoc' {w : World} {base k : Nat} {e : TypeId} {v : Value} {xs : List (Int × Int)} {x y : Int} (h : w.ownsRow base e 2 v (xs.length + 1) (xs.flatMap prEnc ++ [.int .i64 x, .int .i64 y])) (hy : y = (k : Int)) : OwnP w base e v (xs ++ [(x, (k : Int))]) := by
  subst hy; exact ownP_snoc h
set_option maxRecDepth 100000 in
set_option maxHeartbeats 1000000 in
theorem refContours_any (A : Option Addr) (n c : Nat) (shapes : List Shp) (w : World) (hs : shpsR.R w (Lt w) shapes [.slice A n c]) (hS : SmallS shapes) :
    Calls Try.prog 16 #[.slice A n c] w (CtPost (contoursF shapes) w) := by
  obtain ⟨rfl, hm⟩ := slice_len hs
  have hsl := hS.len
  obtain ⟨i0, hinf, hz0, hz1, hz2⟩ := info_parts ct_info
  go_enter Try.func16, Try.ntmps16
  go_wp2
  go_loopw [3, 4] (fun v i wr => ∃ k : Nat, k ≤ shapes.length ∧ i = .int .i64 k ∧ OwnP wr w.heap.size 24 v (ctTo shapes k) ∧ Below w.heap.size w wr) (fun _ i _ => shapes.length - (intOf i).toNat)
  case atStart => exact ⟨0, Nat.zero_le _, rfl, World.ownsRow_nil _ _ _ _, Below.refl _ _⟩
  case round =>
    obtain ⟨k, hk, rfl, hown, hb⟩ := hrel
    have hz := hb.size
    by_cases hlt : k < shapes.length
    · obtain ⟨b, off, s, O, no, co, H, nh, ch, rfl, hx, hbD, c0', c1', hno, hnh, hO, hH, hnom, hnhm⟩ := shape_at hs hlt
      have c0 := ((bcell hb).1 b (off + k * 2) hbD).trans c0'
      have c1 := ((bcell hb).1 b (off + k * 2 + 1) hbD).trans c1'
      have hh := hS.holes s (List.mem_of_getElem? hx.out)
      have hno' := hno.out
      have hnh' := hnh.out
      subst hno' hnh'
      have HN := Lib.hid (ctTo_next hx.out)
      have HTL := Lib.hid (ctTo_len hS k)
      have HOL := Lib.hid (fun m => ctOf_len k s m)
      have hlen1 : (ctTo shapes k).length ≤ 1001000 := by have := HTL.out; omega
      rcases Bool.eq_false_or_eq_true (okRing s.1) with hf | hf
      · have HC : Hid (ctOf k s 1 = [((k : Int), ((0 : Nat) : Int))]) := by
          show ctOf k s 1 = _
          rw [ctOf_yes (by rw [ring0]; exact hf), ctOf]; rfl
        have HF := Lib.hid hf
        clear hf
        go_wp2_with fail
        refine (counts_any O _ co s.1 _ (Rep.below hO hb)).mono ?_
        rintro e w1 ⟨he, rfl⟩
        rw [HF.out] at he
        subst he
        have d0 : wr.heap.size = wr.heap.size := rfl
        go_wp2_with (at_builtin; refine wpList_append_own _ rfl _ _ 32 rfl w.heap.size 24 i0 (.agg #[.int .i64 0, .int .i64 0]) 2 16 Try.underlying32 hinf hz0 hz1 hz2 rfl (by decide) _ _ _ rfl (World.ownsRow.alloc hown _) ⟨wr.heap.size, 0, none⟩ 1 1 [.int .i64 k, .int .i64 0] rfl rfl (new_pr _ _ _ _) (pr_one _ _) (by unfold maxLen; omega) (by omega) (by simp; omega) ?_; intro v5 w5 hown5 hg5 _)
        have hownI : OwnP w5 w.heap.size 24 v5 (ctTo shapes k ++ ctOf k s 1) := by rw [HC.out]; exact ownP_snoc' (k := 0) hown5 rfl
        have hbI := (hb.alloc hz (.cells #[.int .i64 (k : Int), .int .i64 0] 24)).grown hg5 (by simp; omega) (fun j hj => (World.ownsRow.lt hown j hj).1)
        clear hb hz hown hown5 hg5 c0 c1 d0
        go_loopw [3, 5] (fun v i wq => ∃ m : Nat, m ≤ s.2.length ∧ i = .int .i64 m ∧ OwnP wq w.heap.size 24 v (ctTo shapes k ++ ctOf k s (m + 1)) ∧ Below w.heap.size w wq) (fun _ i _ => s.2.length - (intOf i).toNat)
        case atStart => exact ⟨0, Nat.zero_le _, rfl, hownI, hbI⟩
        case round =>
          obtain ⟨m, hmk, rfl, hown, hbq⟩ := hrel
          have hzq := hbq.size
          have c1 := ((bcell hbq).1 b (off + k * 2 + 1) hbD).trans c1'
          have c0 := ((bcell hbq).1 b (off + k * 2) hbD).trans c0'
          by_cases hml : m < s.2.length
          · have hlen2 : (ctTo shapes k ++ ctOf k s (m + 1)).length ≤ 2003000 := by have := HOL.out (m + 1); rw [List.length_append]; omega
            obtain ⟨b2, off2, p, P, np, cp, rfl, hp, hbD2, d0, hnp, hP, -⟩ := hole_at (Rep.at_ hH hbq) hml
            rcases Bool.eq_false_or_eq_true (okRing p) with hf | hf
            · have HC : Hid (ctOf k s (m + 1 + 1) = ctOf k s (m + 1) ++ [((k : Int), ((m + 1 : Nat) : Int))]) := ctOf_yes (by rw [ring_hole hp.out]; exact hf)
              have HF := Lib.hid hf
              clear hf
              go_wp2_with fail
              refine (counts_any P _ cp p _ (Rep.mono _ (fun i (hi : i < w.heap.size) => (Nat.lt_of_lt_of_le hi hzq : i < wr.heap.size)) hP)).mono ?_
              rintro e w6 ⟨he, rfl⟩
              rw [HF.out] at he
              subst he
              go_wp2_with (at_builtin; refine wpList_append_own _ rfl _ _ 32 rfl w.heap.size 24 i0 (.agg #[.int .i64 0, .int .i64 0]) 2 16 Try.underlying32 hinf hz0 hz1 hz2 rfl (by decide) _ _ _ rfl (World.ownsRow.alloc hown _) ⟨wr.heap.size, 0, none⟩ 1 1 [.int .i64 k, .int .i64 ((m : Int) + 1)] rfl rfl (new_pr _ _ _ _) (pr_one _ _) (by unfold maxLen; omega) (by omega) (by simp; omega) ?_; intro v7 w7 hown7 hg7 _)
              go_roundw
              case rel => exact ⟨m + 1, by omega, by go_num, by rw [HC.out, ← List.append_assoc]; exact ownP_snoc' hown7 (by omega), (hbq.alloc hzq _).grown hg7 (by simp; omega) (fun j hj => (World.ownsRow.lt hown j hj).1)⟩
              case measure => simp [intOf]; omega
            · have HC : Hid (ctOf k s (m + 1 + 1) = ctOf k s (m + 1)) := ctOf_no (by rw [ring_hole hp.out]; exact hf)
              have HF := Lib.hid hf
              clear hf
              go_wp2_with fail
              refine (counts_any P _ cp p _ (Rep.mono _ (fun i (hi : i < w.heap.size) => (Nat.lt_of_lt_of_le hi hzq : i < wr.heap.size)) hP)).mono ?_
              rintro e w6 ⟨he, rfl⟩
              rw [HF.out] at he
              subst he
              go_wp2
              go_roundw
              case rel => exact ⟨m + 1, by omega, by go_num, by rw [HC.out]; exact hown, hbq⟩
              case measure => simp [intOf]; omega
          · obtain rfl : m = s.2.length := by omega
            go_wp2
            go_roundw
            case rel => exact ⟨k + 1, by omega, by go_num, by rw [HN.out]; exact hown, hbq⟩
            case measure => simp [intOf]; omega
      · have HC : Hid (ctOf k s 1 = []) := by
          show ctOf k s 1 = _
          rw [ctOf_no (by rw [ring0]; exact hf), ctOf]
        have HF := Lib.hid hf
        clear hf
        go_wp2_with fail
        refine (counts_any O _ co s.1 _ (Rep.below hO hb)).mono ?_
        rintro e w1 ⟨he, rfl⟩
        rw [HF.out] at he
        subst he
        go_wp2
        have hownI : OwnP wr w.heap.size 24 u3 (ctTo shapes k ++ ctOf k s 1) := by rw [HC.out, List.append_nil]; exact hown
        have hbI := hb
        clear hb hz hown c0 c1
        obtain ⟨wo, hwo⟩ : ∃ wo : World, wo = wr := ⟨_, rfl⟩
        subst hwo
        go_loopw [3, 5] (fun v i wq => ∃ m : Nat, m ≤ s.2.length ∧ i = .int .i64 m ∧ OwnP wq w.heap.size 24 v (ctTo shapes k ++ ctOf k s (m + 1)) ∧ Below w.heap.size w wq) (fun _ i _ => s.2.length - (intOf i).toNat)
        case atStart => exact ⟨0, Nat.zero_le _, rfl, hownI, hbI⟩
        case round =>
          obtain ⟨m, hmk, rfl, hown, hbq⟩ := hrel
          have hzq := hbq.size
          have c1 := ((bcell hbq).1 b (off + k * 2 + 1) hbD).trans c1'
          have c0 := ((bcell hbq).1 b (off + k * 2) hbD).trans c0'
          by_cases hml : m < s.2.length
          · have hlen2 : (ctTo shapes k ++ ctOf k s (m + 1)).length ≤ 2003000 := by have := HOL.out (m + 1); rw [List.length_append]; omega
            obtain ⟨b2, off2, p, P, np, cp, rfl, hp, hbD2, d0, hnp, hP, -⟩ := hole_at (Rep.at_ hH hbq) hml
            rcases Bool.eq_false_or_eq_true (okRing p) with hf | hf
            · have HC : Hid (ctOf k s (m + 1 + 1) = ctOf k s (m + 1) ++ [((k : Int), ((m + 1 : Nat) : Int))]) := ctOf_yes (by rw [ring_hole hp.out]; exact hf)
              have HF := Lib.hid hf
              clear hf
              go_wp2_with fail
              refine (counts_any P _ cp p _ (Rep.mono _ (fun i (hi : i < w.heap.size) => (Nat.lt_of_lt_of_le hi hzq : i < wr.heap.size)) hP)).mono ?_
              rintro e w6 ⟨he, rfl⟩
              rw [HF.out] at he
              subst he
              go_wp2_with (at_builtin; refine wpList_append_own _ rfl _ _ 32 rfl w.heap.size 24 i0 (.agg #[.int .i64 0, .int .i64 0]) 2 16 Try.underlying32 hinf hz0 hz1 hz2 rfl (by decide) _ _ _ rfl (World.ownsRow.alloc hown _) ⟨wr.heap.size, 0, none⟩ 1 1 [.int .i64 k, .int .i64 ((m : Int) + 1)] rfl rfl (new_pr _ _ _ _) (pr_one _ _) (by unfold maxLen; omega) (by omega) (by simp; omega) ?_; intro v7 w7 hown7 hg7 _)
              go_roundw
              case rel => exact ⟨m + 1, by omega, by go_num, by rw [HC.out, ← List.append_assoc]; exact ownP_snoc' hown7 (by omega), (hbq.alloc hzq _).grown hg7 (by simp; omega) (fun j hj => (World.ownsRow.lt hown j hj).1)⟩
              case measure => simp [intOf]; omega
            · have HC : Hid (ctOf k s (m + 1 + 1) = ctOf k s (m + 1)) := ctOf_no (by rw [ring_hole hp.out]; exact hf)
              have HF := Lib.hid hf
              clear hf
              go_wp2_with fail
              refine (counts_any P _ cp p _ (Rep.mono _ (fun i (hi : i < w.heap.size) => (Nat.lt_of_lt_of_le hi hzq : i < wr.heap.size)) hP)).mono ?_
              rintro e w6 ⟨he, rfl⟩
              rw [HF.out] at he
              subst he
              go_wp2
              go_roundw
              case rel => exact ⟨m + 1, by omega, by go_num, by rw [HC.out]; exact hown, hbq⟩
              case measure => simp [intOf]; omega
          · obtain rfl : m = s.2.length := by omega
            go_wp2
            go_roundw
            case rel => exact ⟨k + 1, by omega, by go_num, by rw [HN.out]; exact hown, hbq⟩
            case measure => simp [intOf]; omega
    · obtain rfl : k = shapes.length := by omega
      go_wp2
      go_ret
      exact ⟨_, rfl, hown, hb⟩
end Go.Proofs.Ytpefmbjaolcapaa

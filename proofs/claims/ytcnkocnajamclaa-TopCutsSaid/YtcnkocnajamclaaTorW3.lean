/- Chapter 26: Contours, by walking the program's text. -/
import Derived.Test.YtcnkocnajamclaaTorW2
import Derived.Maps.AppendAt
namespace Go.Proofs.Ytcnkocnajamclaa
open Go Go.RowKit

theorem ct_info : (Try.prog.info? 78).map (fun i => (i.zero, i.size, i.bytes)) = some (some (.agg #[.int .i64 0, .int .i64 0]), 2, 16) := by kernel_rfl
theorem ctTo_next {shapes : List Shp} {k : Nat} {s : Shp} (h : shapes[k]? = some s) : ctTo shapes (k + 1) = ctTo shapes k ++ ctOf k s (s.2.length + 1) := by rw [ctTo, getD_at h]
theorem ctOf_yes {i n : Nat} {s : Shp} (h : okRing (ringOf s n) = true) : ctOf i s (n + 1) = ctOf i s n ++ [((i : Int), (n : Int))] := by rw [ctOf, if_pos h]
theorem ctOf_no {i n : Nat} {s : Shp} (h : okRing (ringOf s n) = false) : ctOf i s (n + 1) = ctOf i s n := by rw [ctOf, if_neg (by rw [h]; decide)]
theorem ct_bd {shapes : List Shp} (h : SmallS shapes) : ∀ x ∈ contoursF shapes, inI64 x.1 ∧ inI64 x.2 := by
  intro x hx
  obtain ⟨i, k, h1, h2, -, rfl⟩ := mem_contours.1 hx
  have h3 := getD_small h i
  have h4 := h.len
  constructor <;> (unfold inI64; simp only []; omega)
def CtPost (xs : List Pt) (w : World) (e : Ending) (w' : World) : Prop := ∃ v, e = .returned v ∧ OwnP w' w.heap.size 78 v xs ∧ Below w.heap.size w w'
set_option maxRecDepth 100000 in
set_option maxHeartbeats 1000000 in
theorem contours_any (A : Option Addr) (n c : Nat) (shapes : List Shp) (w : World) (hs : shpsR.R w (Lt w) shapes [.slice A n c]) (hS : SmallS shapes) :
    Calls Try.prog 33 #[.slice A n c] w (CtPost (contoursF shapes) w) := by
  obtain ⟨rfl, hm⟩ := slice_len hs
  have hsl := hS.len
  obtain ⟨i0, hinf, hz0, hz1, hz2⟩ := info_parts ct_info
  go_enter Try.func33, Try.ntmps33
  go_wp2
  go_loopw [2, 9] (fun v i wr => ∃ k : Nat, k ≤ shapes.length ∧ i = .int .i64 k ∧ OwnP wr w.heap.size 78 v (ctTo shapes k) ∧ Below w.heap.size w wr) (fun _ i _ => shapes.length - (intOf i).toNat)
  case atStart => exact ⟨0, Nat.zero_le _, rfl, World.ownsRow_nil _ _ _ _, Below.refl _ _⟩
  case round =>
    obtain ⟨k, hk, rfl, hown, hb⟩ := hrel
    have hz := hb.size
    by_cases hlt : k < shapes.length
    · obtain ⟨b, off, s, O, no, co, H, nh, ch, rfl, hx, hbD, c0', c1', hno, hnh, hO, hH, -, hnhm⟩ := shape_at hs hlt
      have c0 := ((bcell hb).1 b (off + k * 2) hbD).trans c0'
      have c1 := ((bcell hb).1 b (off + k * 2 + 1) hbD).trans c1'
      clear c0' c1'
      have hbl : b < wr.heap.size := Nat.lt_of_lt_of_le hbD hz
      have hnb : ¬ b = wr.heap.size := by omega
      have hh := hS.holes s (List.mem_of_getElem? hx.out)
      have hno' := hno.out
      have hnh' := hnh.out
      subst hno' hnh'
      have HN := Lib.hid (ctTo_next hx.out)
      have HTL := Lib.hid (ctTo_len hS k)
      have HOL := Lib.hid (fun m => ctOf_len k s m)
      have hnot : u2.ownBlock ≠ some wr.heap.size := fun e => by have := (World.ownsRow.lt hown _ e).2; omega
      have hlen1 : (ctTo shapes k).length ≤ 1001000 := by have := HTL.out; omega
      go_wp2
      obtain ⟨G, hG⟩ : ∃ G, G = wr.heap.size := ⟨_, rfl⟩
      have bk := Blk.new wr 42 #[.slice O s.1.length co, .slice H s.2.length ch]
      have hown1 : OwnP (wr.alloc (.cells #[.slice O s.1.length co, .slice H s.2.length ch] 42)) w.heap.size 78 u2 (ctTo shapes k ++ ctOf k s 0) := by
        rw [ctOf, List.append_nil]; exact World.ownsRow.alloc hown _
      have hb1 := hb.alloc hz (.cells #[.slice O s.1.length co, .slice H s.2.length ch] 42)
      rw [← hG] at bk hnot hbl ⊢
      have hGlt : G < (wr.alloc (.cells #[.slice O s.1.length co, .slice H s.2.length ch] 42)).heap.size := by rw [hG]; simp
      have HGE : Hid (w.heap.size ≤ G) := by show w.heap.size ≤ G; omega
      clear hG
      go_loopw [2, 18] (fun v i wq => ∃ m : Nat, m ≤ s.2.length + 1 ∧ i = .int .i64 m ∧ OwnP wq w.heap.size 78 v (ctTo shapes k ++ ctOf k s m) ∧ v.ownBlock ≠ some G ∧ G < wq.heap.size ∧ Blk wq G 42 #[.slice O s.1.length co, .slice H s.2.length ch] ∧ Below w.heap.size w wq) (fun _ i _ => s.2.length + 1 - (intOf i).toNat)
      case atStart => exact ⟨0, Nat.zero_le _, rfl, hown1, hnot, hGlt, bk, hb1⟩
      case round =>
        obtain ⟨m, hmk, rfl, hown, hnot, hGl, bk, hbq⟩ := hrel
        have hzq := hbq.size
        by_cases hml : m < s.2.length + 1
        · have g0 := bk.c20
          have g1 := bk.c21
          have hmd : (m : Int) < (s.2.length : Int) + 1 := by omega
          have hlen2 : (ctTo shapes k ++ ctOf k s m).length ≤ 2003000 := by have := HOL.out m; rw [List.length_append]; omega
          go_wp2_with fail
          refine (ring_any O H s.1.length co s.2.length ch m s (Lt w) _ (Rep.at_ hO hbq) (Rep.at_ hH hbq) (fun b hb => Nat.lt_of_lt_of_le hb hzq) (by omega)).mono ?_
          rintro e w3 ⟨P, np, cp, rfl, hnp, hP, hb3⟩
          subst hnp
          have hown3 : OwnP w3 w.heap.size 78 _ _ := own_below hown hb3
          have bk3 := bk.below hb3 hGl
          have hG3 : G < w3.heap.size := Nat.lt_of_lt_of_le hGl hb3.size
          have hbw3 := bstep hbq hzq hb3
          have hz3 := hbw3.size
          have hP3 : ptsR.R w3 (Lt w3) (ringOf s m) [.slice P (ringOf s m).length cp] := Rep.mono _ (fun i (hi : i < w.heap.size) => (Nat.lt_of_lt_of_le hi hz3 : i < w3.heap.size)) (Rep.keep _ (fun i hi => hb3.block i (Nat.lt_of_lt_of_le hi hzq)) hP)
          clear hown bk hGl hbq hb3 g0 g1
          by_cases h0 : 0 < (ringOf s m).length
          · rcases Bool.eq_false_or_eq_true ((ringOf s m).any farB) with hf | hf
            · have HC := Lib.hid (ctOf_no (i := k) (okRing_bad hf))
              have HF := Lib.hid hf
              clear hf
              go_wp2_with fail
              refine (containsFar_any P _ cp (ringOf s m) _ hP3).mono ?_
              rintro e w4 ⟨he, hb4⟩
              rw [HF.out] at he
              subst he
              go_wp2
              go_roundw
              case rel => exact ⟨m + 1, by omega, by go_num, by rw [HC.out]; exact own_below hown3 hb4, hnot, Nat.lt_of_lt_of_le hG3 hb4.size, bk3.below hb4 hG3, bstep hbw3 hz3 hb4⟩
              case measure => simp [intOf]; omega
            · have HC : Hid (ctOf k s (m + 1) = ctOf k s m ++ [((k : Int), (m : Int))]) := ctOf_yes (by rw [okRing_is hf]; exact decide_eq_true h0)
              have HF := Lib.hid hf
              clear hf
              go_wp2_with fail
              refine (containsFar_any P _ cp (ringOf s m) _ hP3).mono ?_
              rintro e w4 ⟨he, hb4⟩
              rw [HF.out] at he
              subst he
              have hown4 : OwnP w4 w.heap.size 78 _ _ := own_below hown3 hb4
              have bk4 := bk3.below hb4 hG3
              have hG4 : G < w4.heap.size := Nat.lt_of_lt_of_le hG3 hb4.size
              have hbw4 := bstep hbw3 hz3 hb4
              have hz4 := hbw4.size
              clear hown3 bk3 hG3 hbw3 hb4 hP3
              go_wp2_with (at_builtin; refine wpList_append_own_at _ rfl _ _ 44 rfl w.heap.size 78 i0 (.agg #[.int .i64 0, .int .i64 0]) 2 16 Try.underlying44 hinf hz0 hz1 hz2 rfl (by decide) _ _ _ rfl (World.ownsRow.alloc hown4 _) ⟨w4.heap.size, 0, none⟩ 1 1 [.int .i64 k, .int .i64 m] rfl rfl (new_pr _ _ _ _) (pr_one _ _) (by unfold maxLen; omega) (by omega) (by simp; omega) ?_; intro v5 w5 hown5 hg5 _ hob5)
              go_roundw
              case rel =>
                refine ⟨m + 1, by omega, by go_num, by rw [HC.out, ← List.append_assoc]; exact ownP_snoc hown5, ?_, ?_, ?_, ?_⟩
                · intro e
                  rcases hob5 with h | h
                  · exact hnot (h.symm.trans e)
                  · rw [h] at e
                    have e := Option.some.inj e
                    simp at e; omega
                · have := hg5.size; simp at this; omega
                · exact Blk.grown (bk4.alloc _) hg5 (fun e => hnot e.symm)
                · exact (hbw4.alloc hz4 _).grown hg5 (by simp; omega) (fun j hj => (World.ownsRow.lt hown4 j hj).1)
              case measure => simp [intOf]; omega
          · have HC : Hid (ctOf k s (m + 1) = ctOf k s m) := ctOf_no (by unfold okRing; rw [decide_eq_false h0]; rfl)
            have hd : decide (0 < (ringOf s m).length) = false := decide_eq_false h0
            go_wp2
            go_roundw
            case rel => exact ⟨m + 1, by omega, by go_num, by rw [HC.out]; exact hown3, hnot, hG3, bk3, hbw3⟩
            case measure => simp [intOf]; omega
        · obtain rfl : m = s.2.length + 1 := by omega
          have hmd : ¬ ((s.2.length + 1 : Nat) : Int) < (s.2.length : Int) + 1 := by omega
          go_wp2
          go_roundw
          case rel => exact ⟨k + 1, by omega, by go_num, by rw [HN.out]; exact hown, hbq⟩
          case measure => simp [intOf]; omega
    · obtain rfl : k = shapes.length := by omega
      go_wp2
      go_ret
      exact ⟨_, rfl, hown, hb⟩
end Go.Proofs.Ytcnkocnajamclaa

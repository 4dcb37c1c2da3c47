/- Chapter 33: the law DistortMirror, by walking its text. -/
import Derived.Test.YtlhkidiieajamaaDistLaws
import Derived.Test.YtlhkidiieajamaaDistPlainB
import Derived.Deep.RegionHeld3
import Derived.Deep.AppendLies
namespace Go.Proofs.Ytlhkidiieajamaa
open Go Go.RowKit

theorem bead_info : (Try.prog.info? 39).map (fun i => (i.zero, i.size, i.bytes)) = some (some (.agg #[.int .i64 0, .int .i64 0]), 2, 16) := by kernel_rfl
theorem own_enc {α : Type} {E : Rep α} {enc : α → List Value} (hlen : ∀ x, (enc x).length = E.size) (hpos : 0 < E.size) {w : World} {base : Nat} {e : TypeId} {v : Value} {n : Nat} {xs : List α} (h : w.ownsRow base e E.size v n (xs.flatMap enc))
    (hR : ∀ x ∈ xs, E.R w (Lt w) x (enc x)) : E.slice.R w (Lt w) xs [v] := by
  have hfl : ∀ ys : List α, (ys.flatMap enc).length = ys.length * E.size := fun ys => by
    induction ys with
    | nil => simp
    | cons y ys ih => rw [List.flatMap_cons, List.length_append, hlen, ih, List.length_cons, Nat.add_mul]; omega
  have hn : xs.length = n := by
    have := h.1
    rw [hfl] at this
    exact Nat.eq_of_mul_eq_mul_right hpos this
  rcases h.2 with ⟨rfl, h0⟩ | ⟨g, cap, cur, rfl, hb, hh, hnc, hcm, hcs, ht⟩
  · have : xs = [] := List.eq_nil_of_length_eq_zero (by omega)
    subst this
    exact Rep.slice_nil _ _ _
  · have := Blk.slice_enc (E := E) hlen (w := w) (g := g) (xs := xs) (cs := cur) hh (by rw [hn]; exact ht) hR (c := cap) (by omega) (by unfold maxLen at hcm; exact hcm)
    rw [hn] at this
    exact this
theorem beadR_of {w : World} {D : Nat → Prop} {b : Bead} (h1 : inI64 b.pos) (h2 : inI64 b.shr) : beadR.R w D b (beadCells b) := ⟨[.int .i64 b.pos], [.int .i64 b.shr], rfl, ⟨rfl, h1⟩, ⟨rfl, h2⟩⟩
theorem mirror_snoc {l : List Bead} {k : Nat} {p s : Int} (h : l[k]? = some ⟨p, s⟩) : (mirror (l.take (k + 1))).flatMap beadCells = (mirror (l.take k)).flatMap beadCells ++ [.int .i64 (-p), .int .i64 s] := by
  rw [take_one h]; simp [mirror, mirB, beadCells]

theorem beq_self_int (a : Int) : (a == a) = true := by simp
theorem dec_self (a : List Int) : decide (a = a) = true := by simp
set_option maxHeartbeats 2000000 in
theorem mirror_law (vl : Value) (csr : Array Value) (vo : Value) (l : List Bead) (r : Int × Int) (order : List Int) (w : World) (hl : beadR.slice.R w (Lt w) l [vl]) (hr : (Rep.int.pair Rep.int).R w (Lt w) r csr.toList) (ho : Rep.int.slice.R w (Lt w) order [vo]) :
    Calls Try.prog 6 #[vl, .agg csr, vo] w (Ret (.bool true) w) := by
  obtain rfl := pair_inv hr
  obtain ⟨reach, stiff⟩ := r
  clear hr
  simp only
  obtain ⟨A, c, rfl, hm, -⟩ := slice_inv hl
  obtain ⟨F, d, rfl, hm', -⟩ := slice_inv ho
  have hw0 : Below w.heap.size w (w.alloc (.cells #[.int .i64 reach, .int .i64 stiff] 24)) := (Below.refl _ _).alloc (Nat.le_refl _) _
  have b0 := Blk.new w 24 #[.int .i64 reach, .int .i64 stiff]
  by_cases h1 : 60 < l.length
  · go_enter Try.func6, Try.ntmps6
    go_wp2_with (go_at_call 9; refine (alive_any _).mono ?_; rintro e w1 ⟨rfl, hb⟩)
    go_ret
    exact ⟨rfl, bstep hw0 hw0.size hb⟩
  · by_cases h2 : 60 < order.length
    · go_enter Try.func6, Try.ntmps6
      go_wp2_with (go_at_call 9; refine (alive_any _).mono ?_; rintro e w1 ⟨rfl, hb⟩)
      go_ret
      exact ⟨rfl, bstep hw0 hw0.size hb⟩
    · by_cases hz : checkF l reach stiff = 0
      · have hb1 : (checkF l reach stiff != 0) = false := by simp [hz]
        obtain ⟨h32, hrs, hok⟩ := checkF_ok hz
        have HK := Lib.hid hok
        clear hz hrs hok
        obtain ⟨i0, hi0, hz0, hz1, hz2⟩ := info_parts bead_info
        go_enter Try.func6, Try.ntmps6
        go_wp2_with fail
        refine (check_any _ _ _ _ _ (Rep.below hl hw0)).mono ?_
        rintro e w1 ⟨rfl, hb⟩
        have hw1 := bstep hw0 hw0.size hb
        have hzz := hb.size
        simp only [World.size_alloc] at hzz
        have b1 := b0.below hb (by simp)
        clear hb b0 hw0
        go_wp2_with fail
        go_loopw [7, 8] (fun v i wr => ∃ k : Nat, k ≤ l.length ∧ i = .int .i64 k ∧ wr.ownsRow w1.heap.size 39 2 v k ((mirror (l.take k)).flatMap beadCells) ∧ Below w1.heap.size w1 wr) (fun _ i _ => l.length - (intOf i).toNat)
        case atStart => exact ⟨0, Nat.zero_le _, rfl, World.ownsRow_nil _ _ _ _, Below.refl _ _⟩
        case round =>
          obtain ⟨k, hk, rfl, hown, hb⟩ := hrel
          by_cases hlt : k < l.length
          · obtain ⟨b, off, p, s, rfl, hx, hbw, c0, c1, -⟩ := beads_at (Rep.at_ (Rep.below hl hw1) hb) hlt
            have HB := Lib.hid (okBead_at HK.out hx.out)
            have hp0 : -32768 ≤ p := HB.out.1
            have hp1 : p ≤ 32768 := HB.out.2.1
            have hsz := hb.size
            have hwp : IntKind.i64.wrap (-p) = -p := IntWalk.i64_in _ (by omega)
            have hbr : b < wr.heap.size := Nat.lt_of_lt_of_le hbw hsz
            have hne : u7.ownBlock ≠ some b := fun e => by have := (World.ownsRow.lt hown b e).1; have : b < w1.heap.size := hbw; omega
            go_wp2_with fail
            go_region_held3 (fun W => W.cell? ⟨b, off + k * 2, none⟩ = some (.int .i64 p) ∧ W.cell? ⟨b, off + k * 2 + 1, none⟩ = some (.int .i64 s))
              (first
                | go_keep
                | (go_split_ands; exact ⟨(hgrow.cell_far _ (by simp; omega) (Ne.symm hne)).trans (by assumption), (hgrow.cell_far _ (by simp; omega) (Ne.symm hne)).trans (by assumption)⟩))
              ((refine step_append_lies _ (by rfl) _ _ _ (by rfl) w1.heap.size 39 i0 _ 2 16 Try.underlying22 hi0 hz0 hz1 hz2 rfl (by omega) u7 k _ (by rfl) ((World.ownsRow.alloc hown _).drew)
                  ⟨wr.heap.size, 0, none⟩ 1 1 [.int .i64 (-p), .int .i64 s] (by rfl) (by rfl) (World.news_of_block (cs := #[.int .i64 (-p), .int .i64 s]) (t := 39) (fr := (0, 0)) (heap_alloc_new wr _)) (by simp [Value.oneCell'])
                  (by omega) (by unfold maxLen; omega) (by omega) (by simp; omega) (wr.heap.size + 1) (by simp) ?_; intro gg cap w2 hown1 hgrow hat hlt2))
            go_wp2
            go_roundw
            case rel => exact ⟨k + 1, by omega, by go_num, by rw [mirror_snoc hx.out]; exact hown1, (Below.drew (hb.alloc hb.size _)).grown hgrow (by simp; omega) (fun j hj => (World.ownsRow.lt hown j hj).1)⟩
            case measure => simp [intOf]; omega
          · have hke : k = l.length := by omega
            subst hke
            rw [List.take_length] at hown
            have hrep : beadR.slice.R wr (Lt wr) (mirror l) [u7] := own_enc (E := beadR) (fun _ => rfl) (by decide) hown (fun x hx => by
              obtain ⟨b, hb', rfl⟩ := List.mem_map.1 hx
              have := okBead_bd (List.all_eq_true.1 HK.out b hb')
              exact beadR_of (by unfold inI64 mirB; simp only; omega) (by unfold inI64 mirB; simp only; omega))
            have hw2 := bstep hw1 hw1.size hb
            have b2 := b1.below hb (by omega)
            have hsz := hb.size
            clear hown hb b1 hw1
            have k0 := b2.c20
            have k1 := b2.c21
            have e2 := beq_self_int (runF l reach stiff order).2
            have e3 := beq_self_int (unevF l reach stiff order).1
            have e4 := beq_self_int (unevF l reach stiff order).2
            go_wp2_with fail
            refine (run_any _ _ _ _ _ _ _ (Rep.below hl hw2) (Rep.below ho hw2)).mono ?_
            rintro e w3 ⟨v3, rfl, hv3, hb⟩
            have hw3 := bstep hw2 hw2.size hb
            have hz3 := hb.size
            have hrep3 := Rep.below hrep hb
            have b3 := b2.below hb (by omega)
            clear hb b2 hw2 hrep k0 k1
            have k0 := b3.c20
            have k1 := b3.c21
            go_wp2_with fail
            refine (run_any _ _ _ _ _ _ _ hrep3 (Rep.below ho hw3)).mono ?_
            rintro e w4 ⟨v4, he, hv4, hb⟩
            rw [runF_mir] at he hv4
            subst he
            have hw4 := bstep hw3 hw3.size hb
            have hz4 := hb.size
            have hrep4 := Rep.below hrep3 hb
            have hv3' := Rep.below hv3 hb
            have b4 := b3.below hb (by omega)
            clear hb b3 hw3 hrep3 hv3 k0 k1
            have k0 := b4.c20
            have k1 := b4.c21
            go_wp2_with fail
            refine (uneven_any _ _ _ _ _ _ _ (Rep.below hl hw4) (Rep.below ho hw4)).mono ?_
            rintro e w5 ⟨rfl, hb⟩
            have hw5 := bstep hw4 hw4.size hb
            have hz5 := hb.size
            have hrep5 := Rep.below hrep4 hb
            have hv3 := Rep.below hv3' hb
            have hv4' := Rep.below hv4 hb
            have b5 := b4.below hb (by omega)
            clear hb b4 hw4 hrep4 hv3' hv4 k0 k1
            have k0 := b5.c20
            have k1 := b5.c21
            go_wp2_with fail
            refine (uneven_any _ _ _ _ _ _ _ hrep5 (Rep.below ho hw5)).mono ?_
            rintro e w6 ⟨he, hb⟩
            rw [unevF_mir] at he
            subst he
            have hw6 := bstep hw5 hw5.size hb
            have hv3' := Rep.below hv3 hb
            have hv4 := Rep.below hv4' hb
            clear hb b5 hw5 hrep5 hv3 hv4' k0 k1
            go_wp2_with fail
            refine (ints_any _ _ _ _ _ hv3' hv4).mono ?_
            rintro e w7 ⟨he, hb⟩
            rw [dec_self] at he
            subst he
            have hw7 := bstep hw6 hw6.size (hb.below _)
            clear hb hw6 hv3' hv4
            go_wp2_with fail
            refine (alive_any _).mono ?_
            rintro e w8 ⟨rfl, hb⟩
            go_wp2
            go_ret
            exact ⟨rfl, bstep hw7 hw7.size hb⟩
      · have hb1 : (checkF l reach stiff != 0) = true := by simp [hz]
        clear hz
        go_enter Try.func6, Try.ntmps6
        go_wp2_with fail
        refine (check_any _ _ _ _ _ (Rep.below hl hw0)).mono ?_
        rintro e w1 ⟨rfl, hb⟩
        have hw1 := bstep hw0 hw0.size hb
        clear hb
        go_wp2_with (go_at_call 9; refine (alive_any _).mono ?_; rintro e w2 ⟨rfl, hb⟩)
        go_ret
        exact ⟨rfl, bstep hw1 hw1.size hb⟩
end Go.Proofs.Ytlhkidiieajamaa

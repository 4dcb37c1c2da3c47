/- Chapter 33: what the program's and the reference's functions do, by walking their text: Run. -/
import Derived.Test.YtgiphdjblnfjcaaDistWalksB
namespace Go.Proofs.Ytgiphdjblnfjcaa
open Go Go.RowKit

theorem nearB_of {l : List Bead} {reach : Int} {i k : Nat} {p s p' s' : Int} (hi : l[i]? = some ⟨p, s⟩) (hk : l[k]? = some ⟨p', s'⟩) : nearB l reach i k = fromB (p' - p) (-reach) reach := by
  unfold nearB; rw [getD_of hi, getD_of hk]
theorem okBead_at {l : List Bead} {k : Nat} {p s : Int} (h : l.all okBead = true) (hk : l[k]? = some ⟨p, s⟩) : -32768 ≤ p ∧ p ≤ 32768 ∧ 0 ≤ s ∧ s ≤ 100000 :=
  okBead_iff.1 (List.all_eq_true.1 h _ (List.mem_of_getElem? hk))
theorem nearN_succ {l : List Bead} {reach : Int} {i k : Nat} {fin : List Int} {x : Int} (hx : fin[k]? = some x) :
    nearN l reach i (fin.take (k + 1)) = nearN l reach i (fin.take k) + if nearB l reach i x.toNat then 1 else 0 := by
  rw [take_one hx, nearN_snoc]

theorem shrinkOf_eq {l : List Bead} {reach stiff : Int} {i : Nat} {fin : List Int} {p s : Int} {nn : Nat} (hx : l[i]? = some ⟨p, s⟩) (hn : nearN l reach i fin = nn) :
    shrinkOf l reach stiff i fin = s * 100 / (100 + (nn : Int) * stiff) := by
  unfold shrinkOf; rw [getD_of hx, hn]

set_option maxHeartbeats 800000 in
theorem weld_any (i : Nat) (vf : Value) (fin : List Int) (bl br bs g : Nat) (vl : Value) (l : List Bead) (reach stiff : Int) (cs : Array Value) (w : World)
    (hl : beadR.slice.R w (Lt w) l [vl]) (hf : Rep.int.slice.R w (Lt w) fin [vf]) (hbl : Blk w bl 22 #[vl]) (hbr : Blk w br 24 #[.int .i64 reach, .int .i64 stiff])
    (hbs : Blk w bs 28 #[.slice (some ⟨g, 0, none⟩) l.length l.length]) (hg : Blk w g 3 cs) (hcs : cs.size = l.length)
    (hfn : fin.length ≤ 32) (hi : i < l.length) (hfin : ∀ x ∈ fin, 0 ≤ x ∧ x < (l.length : Int)) (hr : restrOk reach stiff = true) (hok : l.all okBead = true) :
    Calls Try.prog 38 #[.int .i64 i, vf, .pointer (some ⟨bl, 0, none⟩), .pointer (some ⟨br, 0, none⟩), .pointer (some ⟨bs, 0, none⟩)] w
      fun e w' => e = .returned (.tuple #[]) ∧ ∃ m, w' = (w.drewN m).setCell ⟨g, i, none⟩ (.int .i64 (shrinkOf l reach stiff i fin)) := by
  obtain ⟨A, c, rfl, hm, -⟩ := slice_inv hl
  obtain ⟨F, d, rfl, hm', -⟩ := slice_inv hf
  have HR := Lib.hid (restrOk_iff.1 hr)
  have hr0 : 0 ≤ reach := HR.out.1
  have hr1 : reach ≤ 32768 := HR.out.2.1
  have hs0 : 0 ≤ stiff := HR.out.2.2.1
  have hs1 : stiff ≤ 1000 := HR.out.2.2.2
  have HOK := Lib.hid hok
  have HF := Lib.hid hfin
  clear hr hok hfin
  obtain ⟨b, off, p, s, rfl, hx, -, c0, c1, -⟩ := beads_at hl hi
  have HB := Lib.hid (okBead_at HOK.out hx.out)
  have hp0 : -32768 ≤ p := HB.out.1
  have hp1 : p ≤ 32768 := HB.out.2.1
  have hq0 : 0 ≤ s := HB.out.2.2.1
  have hq1 : s ≤ 100000 := HB.out.2.2.2
  have cl := hbl.cell 0
  have cr0 := hbr.cell 0
  have cr1 := hbr.cell 1
  have cs0 := hbs.cell 0
  simp only [List.getElem?_toArray, List.getElem?_cons_zero, List.getElem?_cons_succ] at cl cr0 cr1 cs0
  have cg : w.cell? ⟨g, i, none⟩ = some (cs[i]'(by omega)) := (hg.cell i).trans (Array.getElem?_eq_getElem _)
  generalize cs[i]'(by omega) = old at cg
  have cf := hg.free i
  have HCS := Lib.hid hcs
  clear hcs
  go_enter Try.func38, Try.ntmps38
  go_wp2
  go_loopw [7, 13] (fun near j wr => ∃ k m : Nat, k ≤ fin.length ∧ j = .int .i64 k ∧ near = .int .i64 (nearN l reach i (fin.take k)) ∧ wr = w.drewN m) (fun _ j _ => fin.length - (intOf j).toNat)
  case atStart => exact ⟨0, 0, Nat.zero_le _, rfl, rfl, rfl⟩
  case round =>
    obtain ⟨k, m, hk, rfl, rfl, rfl⟩ := hrel
    have hnk := nearN_le l reach i (fin.take k)
    have hnl : (fin.take k).length ≤ k := List.length_take_le _ _
    by_cases hlt : k < fin.length
    · obtain ⟨b', off', x, rfl, hy, -, c2, -⟩ := ints_at hf hlt
      have HX := Lib.hid (HF.out x (List.mem_of_getElem? hy.out))
      have hx0 := HX.out.1
      have hx1 := HX.out.2
      obtain ⟨j, rfl⟩ := Int.eq_ofNat_of_zero_le hx0
      obtain ⟨b2, off2, p', s', e, hz, -, c3, -⟩ := beads_at hl (k := j) (by omega)
      injection e with e
      injection e with e1 e2 _
      subst e1 e2
      have HB' := Lib.hid (okBead_at HOK.out hz.out)
      have hp0' : -32768 ≤ p' := HB'.out.1
      have hp1' : p' ≤ 32768 := HB'.out.2.1
      have HN := Lib.hid (nearN_succ (l := l) (reach := reach) (i := i) hy.out)
      rw [Int.toNat_natCast, nearB_of hx.out hz.out] at HN
      generalize hnn : nearN l reach i (fin.take k) = nn at *
      have HNN := Lib.hid hnn
      clear hnn
      rcases Bool.eq_false_or_eq_true (fromB (p' - p) (-reach) reach) with hd | hd
      · rw [hd] at HN
        go_wp2
        go_quiet (fail)
        go_wp2_with (first | (go_at_call 39; refine (from_any _ _ _ _).mono ?_; rintro e w' ⟨rfl, rfl⟩))
        go_roundw
        case rel => exact ⟨k + 1, _, by omega, by go_num, by rw [HN.out]; go_num, rfl⟩
        case measure => simp [intOf]; omega
      · rw [hd] at HN
        go_wp2
        go_quiet (fail)
        go_wp2_with (first | (go_at_call 39; refine (from_any _ _ _ _).mono ?_; rintro e w' ⟨rfl, rfl⟩))
        go_roundw
        case rel => exact ⟨k + 1, _, by omega, by go_num, by rw [HN.out]; go_num, rfl⟩
        case measure => simp [intOf]; omega
    · have hke : fin.take k = fin := List.take_of_length_le (by omega)
      have hnf := nearN_le l reach i fin
      rw [hke]
      clear hke hnk hnl
      generalize hnn : nearN l reach i fin = nn at *
      have HNN := Lib.hid hnn
      clear hnn
      have hmul := mul_bd (a := (nn : Int)) (s := stiff) (A := 32) (S := 1000) (by omega) (by omega) hs0 hs1
      obtain ⟨hm0, hm1⟩ := hmul
      go_wp2
      go_region
      go_end0
      refine ⟨rfl, m + 1, ?_⟩
      rw [shrinkOf_eq hx.out HNN.out]

theorem seen_info : True := trivial
/-- what Run comes to. -/
def RunPost (l : List Bead) (reach stiff : Int) (order : List Int) (w : World) (e : Ending) (w' : World) : Prop :=
  ∃ v, e = .returned (.tuple #[v, .int .i64 (runF l reach stiff order).2]) ∧ Rep.int.slice.R w' (Lt w') (runF l reach stiff order).1 [v] ∧ Below w.heap.size w w'
theorem RunPost.bad {l : List Bead} {reach stiff : Int} {order : List Int} {w w' : World} {n : Int} (h : runF l reach stiff order = ([], n)) (hb : Below w.heap.size w w') :
    RunPost l reach stiff order w (.returned (.tuple #[.slice none 0 0, .int .i64 n])) w' :=
  ⟨_, by rw [h], by rw [h]; exact Rep.slice_nil _ _ _, hb⟩

theorem RunPost.yes {l : List Bead} {reach stiff : Int} {order xs : List Int} {w w' : World} {v : Value} (h : runF l reach stiff order = (xs, 0)) (hv : Rep.int.slice.R w' (Lt w') xs [v]) (hb : Below w.heap.size w w') :
    RunPost l reach stiff order w (.returned (.tuple #[v, .int .i64 0])) w' :=
  ⟨v, by rw [h], by rw [h]; exact hv, hb⟩

set_option maxHeartbeats 800000 in
theorem run_any (vl vo : Value) (l : List Bead) (reach stiff : Int) (order : List Int) (w : World)
    (hl : beadR.slice.R w (Lt w) l [vl]) (ho : Rep.int.slice.R w (Lt w) order [vo]) :
    Calls Try.prog 21 #[vl, .agg #[.int .i64 reach, .int .i64 stiff], vo] w (RunPost l reach stiff order w) := by
  obtain ⟨A, c, rfl, hm, -⟩ := slice_inv hl
  obtain ⟨F, d, rfl, hm', hcap⟩ := slice_inv ho
  by_cases hchk : checkF l reach stiff = 0
  · have hb0 : (checkF l reach stiff != 0) = false := by simp [hchk]
    obtain ⟨h32, hr, hok⟩ := checkF_ok hchk
    rcases Bool.eq_false_or_eq_true (orderB order l.length) with hord | hord
    · have HC := Lib.hid hchk
      have HR := Lib.hid hr
      have HK := Lib.hid hok
      clear hchk hr hok
      have hmk := fun u => run_make1 (P := Try.prog) Try.underlying28 int_info rfl l.length (by omega) (by omega) u
      go_enter Try.func21, Try.ntmps21
      go_wp2_with fail
      refine (check_any _ _ _ _ _ (Rep.below hl (by go_grown))).mono ?_
      rintro e w1 ⟨rfl, hb1⟩
      have hw1 : Below w.heap.size w w1 := bstep (by go_grown) (by simp; omega) hb1
      have hz1 := hb1.size
      simp only [World.size_alloc] at hz1
      have b0 := ((Blk.new w 22 #[.slice A l.length c]).alloc _).below hb1 (by simp; omega)
      have b1 := (Blk.new (w.alloc _) 24 #[.int .i64 reach, .int .i64 stiff]).below hb1 (by simp)
      simp only [World.size_alloc] at b1
      clear hb1
      have k0 := b0.c0
      go_wp2_with fail
      refine (isOrder_any _ _ _ _ h32 (Rep.below ho hw1)).mono ?_
      rintro e w2 ⟨rfl, hb2⟩
      have hw2 : Below w.heap.size w w2 := bstep hw1 (by omega) hb2
      have hz2 := hb2.size
      have b0' := b0.below hb2 (by omega)
      have b1' := b1.below hb2 (by omega)
      clear hb2 hw1 k0 b0 b1
      have k0 := b0'.c0
      go_wp2_with fail
      clear hmk k0
      have HO := Lib.hid (orderB_yes hord)
      have hol : order.length ≤ 32 := by have := HO.out.1; omega
      have b2 := (((Blk.new w2 3 (Array.replicate l.length (.int .i64 0))).alloc (.cells #[.slice (some ⟨w2.heap.size, 0, none⟩) l.length l.length] 28)))
      rw [intsArr_replicate] at b2
      have b3 := Blk.new (w2.alloc (.cells (intsArr (List.replicate l.length 0)) 3)) 28 #[.slice (some ⟨w2.heap.size, 0, none⟩) l.length l.length]
      simp only [World.size_alloc] at b3
      go_loopw [30] (fun j wr => ∃ k : Nat, k ≤ order.length ∧ j = .int .i64 k ∧ Blk wr w.heap.size 22 #[.slice A l.length c] ∧ Blk wr (w.heap.size + 1) 24 #[.int .i64 reach, .int .i64 stiff] ∧
          Blk wr w2.heap.size 3 (intsArr (runTo l reach stiff order k)) ∧ Blk wr (w2.heap.size + 1) 28 #[.slice (some ⟨w2.heap.size, 0, none⟩) l.length l.length] ∧ Below w.heap.size w wr) (fun j _ => order.length - (intOf j).toNat)
      case atStart =>
        rw [intsArr_replicate]
        exact ⟨0, Nat.zero_le _, rfl, (b0'.alloc _).alloc _, (b1'.alloc _).alloc _, b2, b3, (hw2.alloc (by omega) _).alloc (by simp; omega) _⟩
      case round =>
        obtain ⟨k, hk, rfl, d0, d1, d2, d3, hb⟩ := hrel
        have k3 := d3.c0
        by_cases hlt : k < order.length
        · obtain ⟨b, off, x, rfl, hx, -, c0, -⟩ := ints_at (Rep.at_ ho hb) hlt
          have HX := Lib.hid (HO.out.2.1 x (List.mem_of_getElem? hx.out))
          have hx0 := HX.out.1
          have hx1 := HX.out.2
          obtain ⟨i, rfl⟩ := Int.eq_ofNat_of_zero_le hx0
          go_wp2_with fail
          refine (weld_any i _ (order.take k) _ _ _ _ _ l reach stiff (intsArr (runTo l reach stiff order k)) _ (Rep.below hl hb) (Rep.slice_take (Rep.below ho hb) hk) d0 d1 d3 d2 (by rw [intsArr_size, runTo_length]) (by rw [List.length_take]; omega) (by omega)
            (fun y hy => HO.out.2.1 y (List.mem_of_mem_take hy)) HR.out HK.out).mono ?_
          rintro e w4 ⟨rfl, m, rfl⟩
          go_wp2
          go_roundw
          case rel =>
            refine ⟨k + 1, by omega, by go_num, (d0.drewN m).far (by show w.heap.size ≠ w2.heap.size; omega) _, (d1.drewN m).far (by show w.heap.size + 1 ≠ w2.heap.size; omega) _, ?_, (d3.drewN m).far (by show w2.heap.size + 1 ≠ w2.heap.size; omega) _, ?_⟩
            · have := (d2.drewN m).set_ i (.int .i64 (shrinkOf l reach stiff i (order.take k)))
              rw [intsArr_set] at this
              have e : runTo l reach stiff order (k + 1) = (runTo l reach stiff order k).set i (shrinkOf l reach stiff i (order.take k)) := by
                rw [runTo, getD_of' hx.out, Int.toNat_natCast]
              rw [e]; exact this
            · exact Below.setCell (p := ⟨w2.heap.size, i, none⟩) (below_drewN hb m) (by show w.heap.size ≤ w2.heap.size; omega) _
          case measure => simp [intOf]; omega
        · have hke : k = order.length := by omega
          subst hke
          go_wp2
          go_ret2
          have h := d2.ints (fun x hx => by have := runTo_bd HR.out HK.out _ x hx; unfold inI64; omega) (c := l.length) (by rw [runTo_length]; omega) (by omega)
          rw [runTo_length] at h
          exact RunPost.yes (runF_yes HC.out hord) h hb
    · have HC := Lib.hid hchk
      clear hchk hr hok
      go_enter Try.func21, Try.ntmps21
      go_wp2_with fail
      refine (check_any _ _ _ _ _ (Rep.below hl (by go_grown))).mono ?_
      rintro e w1 ⟨rfl, hb1⟩
      have hw1 : Below w.heap.size w w1 := bstep (by go_grown) (by simp; omega) hb1
      have b0 := ((Blk.new w 22 #[.slice A l.length c]).alloc _).below hb1 (by simp; omega)
      clear hb1
      have k0 := b0.c0
      go_wp2_with fail
      refine (isOrder_any _ _ _ _ h32 (Rep.below ho hw1)).mono ?_
      rintro e w2 ⟨rfl, hb2⟩
      have hw2 : Below w.heap.size w w2 := bstep hw1 hw1.size hb2
      go_wp2_with fail
      go_ret2
      exact RunPost.bad (runF_order HC.out hord) hw2
  · have hb0 : (checkF l reach stiff != 0) = true := by simp [hchk]
    have HC := Lib.hid hchk
    clear hchk
    go_enter Try.func21, Try.ntmps21
    go_wp2_with fail
    refine (check_any _ _ _ _ _ (Rep.below hl (by go_grown))).mono ?_
    rintro e w1 ⟨rfl, hb1⟩
    have hw1 : Below w.heap.size w w1 := bstep (by go_grown) (by simp; omega) hb1
    go_wp2_with fail
    go_ret2
    exact RunPost.bad (runF_bad HC.out) hw1
end Go.Proofs.Ytgiphdjblnfjcaa

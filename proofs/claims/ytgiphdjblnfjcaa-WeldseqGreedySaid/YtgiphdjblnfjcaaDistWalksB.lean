/- Chapter 33: what the program's and the reference's functions do, by walking their text: isOrder. -/
import Derived.Test.YtgiphdjblnfjcaaDistWalks
namespace Go.Proofs.Ytgiphdjblnfjcaa
open Go Go.RowKit

theorem bool_info : (Try.prog.info? 4).map (fun i => (i.zero, i.size, i.bytes)) = some (some (.bool false), 1, 1) := by kernel_rfl
theorem int_info : (Try.prog.info? 3).map (fun i => (i.zero, i.size, i.bytes)) = some (some (.int .i64 0), 1, 8) := by kernel_rfl

/-- which numbers have been seen. -/
def seenIs (cs : Array Value) (n : Nat) (done : List Int) : Prop := cs.size = n ∧ ∀ i : Nat, i < n → cs[i]? = some (.bool (decide ((i : Int) ∈ done)))

theorem seenIs_set {cs : Array Value} {n : Nat} {done : List Int} {j : Nat} (h : seenIs cs n done) (hj : j < n) : seenIs (cs.setIfInBounds j (.bool true)) n (done ++ [(j : Int)]) := by
  refine ⟨by simp [h.1], fun i hi => ?_⟩
  by_cases hij : j = i
  · subst hij
    rw [Array.getElem?_setIfInBounds_self_of_lt (by rw [h.1]; exact hj)]; simp
  · rw [Array.getElem?_setIfInBounds_ne hij, h.2 i hi]
    have : ¬ (i : Int) = (j : Int) := by omega
    simp [this]

set_option maxHeartbeats 400000 in
theorem isOrder_any (v : Value) (order : List Int) (n : Nat) (w : World) (hn : n ≤ 32) (hs : Rep.int.slice.R w (Lt w) order [v]) :
    Calls Try.prog 37 #[v, .int .i64 n] w (Ret (.bool (orderB order n)) w) := by
  obtain ⟨A, c, rfl, hm, _⟩ := slice_inv hs
  have hmk := fun u => run_make1 (P := Try.prog) Try.underlying72 bool_info rfl n (by omega) (by omega) u
  go_enter Try.func37, Try.ntmps37
  go_wp2
  clear hmk
  go_loopw [12] (fun i wr => ∃ (k : Nat) (cs : Array Value), k ≤ order.length ∧ i = .int .i64 k ∧ Hid (goodB order n k = true) ∧ Hid (seenIs cs n (order.take k)) ∧ Blk wr w.heap.size 4 cs ∧ Below w.heap.size w wr) (fun i _ => order.length - (intOf i).toNat)
  case atStart => exact ⟨0, _, Nat.zero_le _, rfl, by show goodB order n 0 = true; simp [goodB], ⟨by simp, fun i hi => by simp [hi]⟩, Blk.new _ _ _, (Below.refl _ _).alloc (Nat.le_refl _) _⟩
  case round =>
    obtain ⟨k, cs, hk, rfl, hg, hsn, hblk, hb⟩ := hrel
    by_cases hlt : k < order.length
    · obtain ⟨b, off, x, rfl, hx, -, c0, -⟩ := ints_at (Rep.at_ hs hb) hlt
      by_cases hx0 : 0 ≤ x
      · by_cases hx1 : x < n
        · obtain ⟨j, rfl⟩ := Int.eq_ofNat_of_zero_le hx0
          have hj : j < n := by omega
          have c1 : wr.cell? ⟨w.heap.size, j, none⟩ = some (.bool (decide ((j : Int) ∈ order.take k))) := (hblk.cell j).trans (hsn.out.2 j hj)
          have c2 := hblk.free j
          rcases Bool.eq_false_or_eq_true (decide ((j : Int) ∈ order.take k)) with hd | hd
          · have HD := Lib.hid hd
            rw [hd] at c1
            clear hd
            go_wp2
            go_ret
            exact ⟨ret_bool (orderB_bad hx.out (.inr (.inr (of_decide_eq_true HD.out)))).symm, hb⟩
          · have HD := Lib.hid hd
            rw [hd] at c1
            clear hd
            go_wp2
            go_roundw
            case rel => exact ⟨k + 1, _, by omega, by go_num, goodB_succ hg.out hx.out hx0 hx1 (of_decide_eq_false HD.out), by rw [take_one hx.out]; exact seenIs_set hsn.out hj, hblk.set_ _ _, hb.setCell (Nat.le_refl _) _⟩
            case measure => simp [intOf]; omega
        · go_wp2
          go_ret
          exact ⟨ret_bool (orderB_bad hx.out (.inr (.inl (by omega)))).symm, hb⟩
      · go_wp2
        go_ret
        exact ⟨ret_bool (orderB_bad hx.out (.inl (by omega))).symm, hb⟩
    · go_wp2
      go_ret
      refine ⟨ret_bool ?_, hb⟩
      rw [orderB_all hg.out (by omega)]
      first | exact decide_eq_decide.2 (by omega) | (rw [Bool.eq_iff_iff]; simp; omega)

set_option maxHeartbeats 400000 in
theorem refIsOrder_any (v : Value) (order : List Int) (n : Nat) (w : World) (hn : n ≤ 32) (hs : Rep.int.slice.R w (Lt w) order [v]) :
    Calls Try.prog 49 #[v, .int .i64 n] w fun e w' => e = .returned (.bool (orderB order n)) ∧ Qt w w' := by
  obtain ⟨A, c, rfl, hm, _⟩ := slice_inv hs
  by_cases hl : order.length = n
  · subst hl
    go_enter Try.func49, Try.ntmps49
    go_wp2
    go_loopw [5] (fun i wr => ∃ k : Nat, k ≤ order.length ∧ i = .int .i64 k ∧ Hid (goodB order order.length k = true) ∧ Qt w wr) (fun i _ => order.length - (intOf i).toNat)
    case atStart => exact ⟨0, Nat.zero_le _, rfl, by show goodB _ _ 0 = true; simp [goodB], Qt.refl _⟩
    case round =>
      obtain ⟨k, hk, rfl, hg, hq⟩ := hrel
      by_cases hlt : k < order.length
      · obtain ⟨b, off, x, rfl, hx, -, c0, -⟩ := ints_at (hq.rep hs) hlt
        by_cases hx0 : 0 ≤ x
        · by_cases hx1 : x < order.length
          · go_wp2
            obtain ⟨wo, hwo⟩ : ∃ wo : World, wo = wr := ⟨_, rfl⟩
            subst hwo
            go_loopw [6] (fun i wq => ∃ j : Nat, j ≤ k ∧ i = .int .i64 j ∧ Hid (x ∉ order.take j) ∧ Qt w wq) (fun i _ => k - (intOf i).toNat)
            case atStart => exact ⟨0, Nat.zero_le _, rfl, by show x ∉ order.take 0; simp, hq⟩
            case round =>
              obtain ⟨j, hj, rfl, hnot, hq'⟩ := hrel
              by_cases hjk : j < k
              · obtain ⟨b', off', y, e, hy, -, c1, -⟩ := ints_at (hq'.rep hs) (k := j) (by omega)
                injection e with e
                injection e with e1 e2 _
                subst e1 e2
                have c0' := (ints_at (hq'.rep hs) hlt)
                obtain ⟨b', off', x', e, hx', -, c0', -⟩ := c0'
                injection e with e
                injection e with e1 e2 _
                subst e1 e2
                obtain rfl : x' = x := by have := hx'.out.symm.trans hx.out; injection this
                clear c0
                by_cases hxy : y = x'
                · have hb : (y == x') = true := by simp [hxy]
                  have HX := Lib.hid hxy
                  clear hxy
                  go_wp2
                  go_quiet (fail)
                  go_wp2
                  go_ret
                  refine ⟨ret_bool (orderB_bad hx.out (.inr (.inr ?_))).symm, hq'.drewN _⟩
                  have h1 := hy.out
                  rw [HX.out] at h1
                  exact List.mem_of_getElem? (i := j) (by rw [List.getElem?_take, if_pos hjk]; exact h1)
                · have hb : (y == x') = false := by simp [hxy]
                  have HX := Lib.hid hxy
                  clear hxy
                  go_wp2
                  go_quiet (fail)
                  go_wp2
                  go_roundw
                  case rel =>
                    refine ⟨j + 1, by omega, by go_num, ?_, hq'.drewN _⟩
                    show x' ∉ order.take (j + 1)
                    rw [take_one hy.out]
                    intro hm
                    rcases List.mem_append.1 hm with hm | hm
                    · exact hnot.out hm
                    · simp at hm; exact HX.out hm.symm
                  case measure => simp [intOf]; omega
              · have hjk' : j = k := by omega
                subst hjk'
                go_wp2
                go_roundw
                case rel => exact ⟨j + 1, by omega, by go_num, goodB_succ hg.out hx.out hx0 hx1 hnot.out, hq'⟩
                case measure => simp [intOf]; omega
          · go_wp2
            go_ret
            exact ⟨ret_bool (orderB_bad hx.out (.inr (.inl (by omega)))).symm, hq⟩
        · go_wp2
          go_ret
          exact ⟨ret_bool (orderB_bad hx.out (.inl (by omega))).symm, hq⟩
      · go_wp2
        go_ret
        refine ⟨ret_bool ?_, hq⟩
        rw [orderB_all hg.out (by omega)]
        simp
  · have hne : ((order.length : Int) != (n : Int)) = true := by simp; omega
    go_enter Try.func49, Try.ntmps49
    go_wp2
    go_ret
    exact ⟨ret_bool (orderB_len hl).symm, Qt.refl _⟩
end Go.Proofs.Ytgiphdjblnfjcaa

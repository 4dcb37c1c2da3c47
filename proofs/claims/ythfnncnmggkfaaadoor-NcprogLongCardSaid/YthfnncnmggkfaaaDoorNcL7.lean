/- Chapter 27: the law NcprogLong, by walking its text. -/
import Derived.Test.YthfnncnmggkfaaaDoorNcAvM
import Derived.Test.YthfnncnmggkfaaaDoorNcLong
import Derived.Test.YthfnncnmggkfaaaDoorNcOpM
namespace Go.Proofs.YthfnncnmggkfaaaDoor
open Go Go.RowKit

theorem made_three (u : Value) (n : Nat) : madeCells #[u, u, u] n = (List.replicate n u).toArray := by
  apply Array.ext
  · rw [size_madeCells]; simp
  · intro i h1 h2
    have h3 : i % 3 < 3 := Nat.mod_lt _ (by decide)
    simp only [madeCells, Array.getElem_map, Array.getElem_range, List.getElem_toArray, List.getElem_replicate]
    show (#[u, u, u] : Array Value)[i % 3]! = u
    generalize i % 3 = j at h3
    have hj : j = 0 ∨ j = 1 ∨ j = 2 := by omega
    rcases hj with rfl | rfl | rfl <;> rfl
theorem run_make27 {P : Program} {t e : TypeId} {z : Value} {size bytes : Nat} (ht : P.underlying t = some (.slice e)) (hinfo : (P.info? e).map (fun i => (i.zero, i.size, i.bytes)) = some (some z, size, bytes))
    (n : Nat) (hb : bytes * n ≤ 281474976710656) (hn : n ≤ 9223372036854775807) (w : World) :
    (Instr.makeSlice t (.int .i64 (n : Int)) (.int .i64 (n : Int))).run P w = .ok (.slice (some ⟨w.heap.size, 0, none⟩) n n) (w.alloc (.cells (madeCells z.cells (n * size)) e)) := by
  obtain ⟨i, hi, h1, h2, h3⟩ := info_parts hinfo
  have hb' : (i.bytes : Int) * (n : Int) ≤ 281474976710656 := by
    have h : ((i.bytes * n : Nat) : Int) ≤ 281474976710656 := by rw [h3]; omega
    rwa [Int.natCast_mul] at h
  have hr := run_make (P := P) w t e i z ht hi h1 .i64 .i64 n n (by omega) (by omega) hb' (by omega)
  simp only [Int.toNat_natCast] at hr
  rw [hr, h2]
theorem mk_steps (n : Nat) (hn : n ≤ 20010) (u : World) : (Instr.makeSlice 26 (.int .i64 (n : Int)) (.int .i64 (n : Int))).run Tryd.prog u = .ok (.slice (some ⟨u.heap.size, 0, none⟩) n n) (u.alloc (.cells (altC n 0) 49)) := by
  rw [run_make27 (P := Tryd.prog) Tryd.underlying26 step_info n (by omega) (by omega) u, altC_zero]
  rw [show (Value.agg #[.int .i64 0, .int .i64 0, .int .i64 0]).cells = #[.int .i64 0, .int .i64 0, .int .i64 0] from rfl, made_three, Nat.mul_comm]
set_option maxRecDepth 100000 in
set_option maxHeartbeats 4000000 in
theorem nc_long_law (n0 : Int) (w : World) (hT : TabP w) :
    Calls Tryd.prog 7 #[.int .i64 n0] w (Ret (.bool true) w) := by
  have HT := Lib.hid hT
  clear hT
  have q1 := tt_eql
  have q2 := tt_eqg
  have hor : (n0 < 19990) ∨ (¬ n0 < 19990 ∧ 20010 < n0) ∨ (¬ n0 < 19990 ∧ ¬ 20010 < n0) := by omega
  rcases hor with h1 | ⟨h1, h2⟩ | ⟨h1, h2⟩
  · go_enter Tryd.func7, Tryd.ntmps7
    go_wp2_with fail
    refine (alive_any _ HT.out).mono ?_
    rintro e w1 ⟨rfl, hb1⟩
    go_wp2
    go_ret
    exact ⟨rfl, hb1⟩
  · go_enter Tryd.func7, Tryd.ntmps7
    go_wp2_with fail
    refine (alive_any _ HT.out).mono ?_
    rintro e w1 ⟨rfl, hb1⟩
    go_wp2
    go_ret
    exact ⟨rfl, hb1⟩
  · obtain ⟨n, rfl⟩ : ∃ n : Nat, n0 = (n : Int) := ⟨n0.toNat, by omega⟩
    have hn : n ≤ 20010 := by omega
    have hn1 : 19990 ≤ n := by omega
    have hmk := fun u => mk_steps n hn u
    have hb0 := (Below.refl w.heap.size w).alloc (Nat.le_refl _) (.cells (altC n 0) 49)
    have g0 := Blk.new w 49 (altC n 0)
    go_enter Tryd.func7, Tryd.ntmps7
    go_wp2
    clear hmk
    go_loopw [4] (fun iv wr => ∃ k : Nat, k ≤ n ∧ iv = .int .i64 k ∧ Blk wr w.heap.size 49 (altC n k) ∧ Below w.heap.size w wr) (fun iv _ => n - (intOf iv).toNat)
    case atStart => exact ⟨0, Nat.zero_le _, rfl, g0, hb0⟩
    case round =>
      obtain ⟨k, hk, rfl, hg, hb⟩ := hrel
      clear g0 hb0
      by_cases hlt : k < n
      · have hki : (k : Int) < (n : Int) := by omega
        have f0 := hg.free (3 * k)
        have f1 := hg.free (3 * k + 1)
        have f2 := hg.free (3 * k + 2)
        have c0 := (hg.cell (3 * k)).trans (altC_at (j := 0) hlt (by decide))
        have c1 := (hg.cell (3 * k + 1)).trans (altC_at (j := 1) hlt (by decide))
        have c2 := (hg.cell (3 * k + 2)).trans (altC_at (j := 2) hlt (by decide))
        rw [Nat.mul_comm] at f0 f1 f2 c0 c1 c2
        obtain ⟨r, hr⟩ : ∃ r : Nat, r = k % 2 := ⟨_, rfl⟩
        have hr1 : (k : Int) % 2 = (r : Int) := by omega
        have hr2 : (k : Int).tmod 2 = (r : Int) := by rw [Int.tmod_eq_emod_of_nonneg (by omega)]; exact hr1
        have hN := ((hg.set_ (3 * k) (.int .i64 1)).set_ (3 * k + 1) (.int .i64 (r : Int))).set_ (3 * k + 2) (.int .i64 0)
        rw [hr, altC_set hlt, ← hr, Nat.mul_comm] at hN
        have hbN := ((hb.setCell (p := ⟨w.heap.size, k * 3, none⟩) (Nat.le_refl _) (.int .i64 1)).setCell (p := ⟨w.heap.size, k * 3 + 1, none⟩) (Nat.le_refl _) (.int .i64 (r : Int))).setCell (p := ⟨w.heap.size, k * 3 + 2, none⟩) (Nat.le_refl _) (.int .i64 0)
        have HN := Lib.hid hN
        have HBN := Lib.hid hbN
        clear hN hbN hr
        go_wp2
        go_roundw
        case rel => exact ⟨k + 1, by omega, by go_num, HN.out, HBN.out⟩
        case measure => simp [intOf]; omega
      · have hki : ¬ (k : Int) < (n : Int) := by omega
        have hkn : k = n := by omega
        rw [hkn] at hg
        have hl := alt_rep hg hn
        have C3 := Lib.hid (run_any _ (altL n) wr hl)
        clear hlt hkn hg hl
        by_cases hlong : 20000 < n
        · have hl' : (20000 : Int) < (n : Int) := by omega
          rw [alt_many hlong] at C3
          clear hlong
          go_wp2_with fail
          refine C3.out.mono ?_
          rintro e w1 ⟨v3, he, hr3, hb5⟩
          have he : e = .returned (.tuple #[.agg #[.int .i64 0, .int .i64 0, .int .i64 0], v3, .int .i64 4]) := he
          subst he
          have hr3 : holesR.R w1 (Lt w1) [] [v3] := hr3
          obtain ⟨A3, c3, rfl, -, -⟩ := slice_inv hr3
          have hbw1 := bstep hb hb.size hb5
          have hbw2 := hbw1.alloc hbw1.size (.cells #[.int .i64 0, .int .i64 0, .int .i64 0] 38)
          have hT2 := HT.out.below hbw2
          clear hr3 hb hb5
          go_wp2_with fail
          refine (alive_any _ hT2).mono ?_
          rintro e w3 ⟨rfl, hb3⟩
          have hbw3 := bstep hbw2 hbw2.size hb3
          go_wp2
          go_ret
          exact ⟨rfl, hbw3⟩
        · have hl' : ¬ (20000 : Int) < (n : Int) := by omega
          obtain ⟨a, ha⟩ := alt_fit hlong (by omega)
          rw [ha] at C3
          obtain ⟨m, hm⟩ : ∃ m : Nat, m = n - 1 := ⟨_, rfl⟩
          rw [← hm] at C3
          have hm1 : (n : Int) - 1 = (m : Int) := by omega
          clear hlong ha hm
          go_wp2_with fail
          refine C3.out.mono ?_
          rintro e w1 ⟨v3, he, hr3, hb5⟩
          have he : e = .returned (.tuple #[.agg #[.int .i64 (m : Int), .int .i64 0, .int .i64 0], v3, .int .i64 0]) := he
          subst he
          have hr3 : holesR.R w1 (Lt w1) [] [v3] := hr3
          obtain ⟨A3, c3, rfl, -, -⟩ := slice_inv hr3
          have hbw1 := bstep hb hb.size hb5
          have hbw2 := hbw1.alloc hbw1.size (.cells #[.int .i64 (m : Int), .int .i64 0, .int .i64 0] 38)
          have hT2 := HT.out.below hbw2
          clear hr3 hb hb5
          go_wp2_with fail
          refine (alive_any _ hT2).mono ?_
          rintro e w3 ⟨rfl, hb3⟩
          have hbw3 := bstep hbw2 hbw2.size hb3
          go_wp2
          go_ret
          exact ⟨rfl, hbw3⟩
theorem long_card (a n : Int) (w : World) (hT : TabP w) (_ : Rep.int.R w (Lt w) n (Value.int .i64 a).cells.toList) (_ : True) :
    Calls Tryd.prog 7 #[.int .i64 a] w (Ret (.bool true) w) := nc_long_law a w hT
end Go.Proofs.YthfnncnmggkfaaaDoor

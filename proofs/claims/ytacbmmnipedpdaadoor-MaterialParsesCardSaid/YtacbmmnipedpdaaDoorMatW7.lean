/- Chapter 15: Same of the reference at equal catalogs, by walking its text. -/
import Derived.Test.YtacbmmnipedpdaaDoorMatW6
import Derived.Deep.RegionHeld3
namespace Go.Proofs.YtacbmmnipedpdaaDoor
open Go Go.RowKit

theorem gr_mk {w : World} {D : Nat → Prop} {nm : List UInt8} {d y : Int} {ts : List Int} {G : Option Addr} {ng cg : Nat} (hG : Rep.int.slice.R w D ts [.slice G ng cg]) (hn : nm.length ≤ 9223372036854775807) (hd : inI64 d) (hy : inI64 y) :
    grR.R w D (nm, d, y, ts) [.string (bA nm), .int .i64 d, .int .i64 y, .slice G ng cg] :=
  ⟨[.string (bA nm)], _, rfl, ⟨rfl, by show (bA nm).size ≤ _; rw [bA_size]; unfold maxLen; omega⟩, [.int .i64 d], _, rfl, ⟨rfl, hd⟩, [.int .i64 y], _, rfl, ⟨rfl, hy⟩, hG⟩
set_option maxRecDepth 100000 in
set_option maxHeartbeats 4000000 in
theorem same15_eq (A B A' B' : Option Addr) (n c k d n' c' k' d' : Nat) (m : Mat) (w : World) (hg : grR.slice.R w (Lt w) m.1 [.slice A n c]) (hs : scR.slice.R w (Lt w) m.2 [.slice B k d]) (hg' : grR.slice.R w (Lt w) m.1 [.slice A' n' c']) (hs' : scR.slice.R w (Lt w) m.2 [.slice B' k' d']) :
    Calls Tryd.prog 26 #[.agg #[.slice A n c, .slice B k d], .agg #[.slice A' n' c', .slice B' k' d']] w (Ret (.bool true) w) := by
  obtain ⟨hn, hnm⟩ := slice_ln hg
  obtain ⟨hk, hkm⟩ := slice_ln hs
  obtain ⟨hn', -⟩ := slice_ln hg'
  obtain ⟨hk', -⟩ := slice_ln hs'
  obtain rfl : n' = n := by omega
  obtain rfl : k' = k := by omega
  have HN := Lib.hid hn
  have HK := Lib.hid hk
  have HG := Lib.hid hg
  have HS := Lib.hid hs
  have HG' := Lib.hid hg'
  have HS' := Lib.hid hs'
  have hb2 := ((Below.refl w.heap.size w).alloc (Nat.le_refl _) (.cells #[.slice A n' c, .slice B k' d] 25)).alloc (by simp) (.cells #[.slice A' n' c', .slice B' k' d'] 25)
  have b1 := (Blk.new w 25 #[.slice A n' c, .slice B k' d]).alloc (.cells #[.slice A' n' c', .slice B' k' d'] 25)
  have b2 := Blk.new (w.alloc (.cells #[.slice A n' c, .slice B k' d] 25)) 25 #[.slice A' n' c', .slice B' k' d']
  have hsz : (w.alloc (.cells #[.slice A n' c, .slice B k' d] 25)).heap.size = w.heap.size + 1 := by simp
  rw [hsz] at b2
  have hbl : w.heap.size + 1 < ((w.alloc (.cells #[.slice A n' c, .slice B k' d] 25)).alloc (.cells #[.slice A' n' c', .slice B' k' d'] 25)).heap.size := by simp
  have c0 := b1.c20
  have c1 := b1.c21
  have d0 := b2.c20
  have d1 := b2.c21
  have HB1 := Lib.hid b1
  have HB2 := Lib.hid b2
  clear hn hk hn' hk' hg hs hg' hs' b1 b2 hsz
  go_enter Tryd.func26, Tryd.ntmps26
  go_wp2
  generalize (w.alloc (.cells #[.slice A n' c, .slice B k' d] 25)).alloc (.cells #[.slice A' n' c', .slice B' k' d'] 25) = W at *
  go_loopw [5] (fun iv wr => ∃ i : Nat, i ≤ n' ∧ iv = .int .i64 i ∧ Hid (Blk wr w.heap.size 25 #[.slice A n' c, .slice B k' d]) ∧ Hid (Blk wr (w.heap.size + 1) 25 #[.slice A' n' c', .slice B' k' d']) ∧ w.heap.size + 1 < wr.heap.size ∧ Below w.heap.size w wr) (fun iv _ => n' - (intOf iv).toNat)
  case atStart => exact ⟨0, Nat.zero_le _, rfl, HB1.out, HB2.out, hbl, hb2⟩
  case round =>
    clear c0 c1 d0 d1 HB1 HB2 hbl hb2
    obtain ⟨i, hi, rfl, HB1, HB2, hbl, hb⟩ := hrel
    have c0 := HB1.out.c20
    have c1 := HB1.out.c21
    have d0 := HB2.out.c20
    have d1 := HB2.out.c21
    by_cases hlt : i < n'
    · have hki : (i : Int) < (n' : Int) := by omega
      obtain ⟨b, off, nm, dd, y, ts, G, ng, cg, rfl, hx, hK, hng, hG, hnml, hi1, hi2, -⟩ := gr_all HG.out (k := i) (by rw [← HN.out]; exact hlt)
      obtain ⟨b', off', nm', dd', y', ts', G', ng', cg', rfl, hx', hK', hng', hG', -, -, -, -⟩ := gr_all HG'.out (k := i) (by rw [← HN.out]; exact hlt)
      have he := hx.out.symm.trans hx'.out
      injection he with he
      injection he with e1 he
      injection he with e2 he
      injection he with e3 e4
      subst e1 e2 e3 e4
      obtain ⟨k0, k1, k2, k3⟩ := hK.out _ hb
      obtain ⟨l0, l1, l2, l3⟩ := hK'.out _ hb
      have CS := Lib.hid (fun W1 (h : Below w.heap.size w W1) => sameGrade_eq #[.string (bA nm), .int .i64 dd, .int .i64 y, .slice G ng cg] #[.string (bA nm), .int .i64 dd, .int .i64 y, .slice G' ng' cg'] (nm, dd, y, ts) W1 (gr_mk (hG.out _ h) hnml hi1 hi2) (gr_mk (hG'.out _ h) hnml hi1 hi2))
      have HC : Hid (∀ W, Below wr.heap.size wr W → Below wr.heap.size wr W ∧ W.cell? ⟨w.heap.size, 0, none⟩ = some (.slice (some ⟨b, off, none⟩) n' c) ∧ W.cell? ⟨w.heap.size + 1, 0, none⟩ = some (.slice (some ⟨b', off', none⟩) n' c') ∧
          W.cell? ⟨b, off + i * 4, none⟩ = some (.string (bA nm)) ∧ W.cell? ⟨b, off + i * 4 + 1, none⟩ = some (.int .i64 dd) ∧ W.cell? ⟨b, off + i * 4 + 2, none⟩ = some (.int .i64 y) ∧ W.cell? ⟨b, off + i * 4 + 3, none⟩ = some (.slice G ng cg) ∧
          W.cell? ⟨b', off' + i * 4, none⟩ = some (.string (bA nm)) ∧ W.cell? ⟨b', off' + i * 4 + 1, none⟩ = some (.int .i64 dd) ∧ W.cell? ⟨b', off' + i * 4 + 2, none⟩ = some (.int .i64 y) ∧ W.cell? ⟨b', off' + i * 4 + 3, none⟩ = some (.slice G' ng' cg')) := fun W hW => by
        obtain ⟨m0, m1, m2, m3⟩ := hK.out _ (bstep hb hb.size hW)
        obtain ⟨n0, n1, n2, n3⟩ := hK'.out _ (bstep hb hb.size hW)
        exact ⟨hW, (hW.cell (p := ⟨w.heap.size, 0, none⟩) (Nat.lt_trans (Nat.lt_succ_self _) hbl)).trans c0, (hW.cell (p := ⟨w.heap.size + 1, 0, none⟩) hbl).trans d0, m0, m1, m2, m3, n0, n1, n2, n3⟩
      have hwr := hb.size
      go_wp2
      go_region_held3 (fun W => Below wr.heap.size wr W ∧ W.cell? ⟨w.heap.size, 0, none⟩ = some (.slice (some ⟨b, off, none⟩) n' c) ∧ W.cell? ⟨w.heap.size + 1, 0, none⟩ = some (.slice (some ⟨b', off', none⟩) n' c') ∧
          W.cell? ⟨b, off + i * 4, none⟩ = some (.string (bA nm)) ∧ W.cell? ⟨b, off + i * 4 + 1, none⟩ = some (.int .i64 dd) ∧ W.cell? ⟨b, off + i * 4 + 2, none⟩ = some (.int .i64 y) ∧ W.cell? ⟨b, off + i * 4 + 3, none⟩ = some (.slice G ng cg) ∧
          W.cell? ⟨b', off' + i * 4, none⟩ = some (.string (bA nm)) ∧ W.cell? ⟨b', off' + i * 4 + 1, none⟩ = some (.int .i64 dd) ∧ W.cell? ⟨b', off' + i * 4 + 2, none⟩ = some (.int .i64 y) ∧ W.cell? ⟨b', off' + i * 4 + 3, none⟩ = some (.slice G' ng' cg'))
        (first
          | exact HC.out _ ((Below.refl _ _).drew)
          | exact HC.out _ hSa)
        (first
          | (go_at_call 19
             go_split_ands
             refine (CS.out _ (bstep hb hwr (by assumption))).mono ?_
             rintro e W1 ⟨rfl, hq⟩
             have hSa := bstep (B := wr.heap.size) (a := wr) (by assumption) (Below.size (by assumption)) hq))
      all_goals
        go_split_ands
        go_wp2
        go_roundw
        case rel => exact ⟨i + 1, by omega, by go_num, HB1.out.below (B := wr.heap.size) (by assumption) (by omega), HB2.out.below (B := wr.heap.size) (by assumption) hbl, Nat.lt_of_lt_of_le hbl (Below.size (B := wr.heap.size) (w := wr) (by assumption)), bstep hb hb.size (by assumption)⟩
        case measure => simp [intOf]; omega
    · have hki : ¬ (i : Int) < (n' : Int) := by omega
      go_wp2
      go_loopw [6] (fun iv wr => ∃ i : Nat, i ≤ k' ∧ iv = .int .i64 i ∧ Hid (Blk wr w.heap.size 25 #[.slice A n' c, .slice B k' d]) ∧ Hid (Blk wr (w.heap.size + 1) 25 #[.slice A' n' c', .slice B' k' d']) ∧ w.heap.size + 1 < wr.heap.size ∧ Below w.heap.size w wr) (fun iv _ => k' - (intOf iv).toNat)
      case atStart => exact ⟨0, Nat.zero_le _, rfl, HB1.out, HB2.out, hbl, hb⟩
      case round =>
        clear c0 c1 d0 d1 HB1 HB2 hbl hb
        obtain ⟨j, hj, rfl, HB1, HB2, hbl, hb⟩ := hrel
        have c0 := HB1.out.c20
        have c1 := HB1.out.c21
        have d0 := HB2.out.c20
        have d1 := HB2.out.c21
        have q1 := sc_neq
        have q2 := sc_eqg
        by_cases hlt2 : j < k'
        · have hki2 : (j : Int) < (k' : Int) := by omega
          obtain ⟨b, off, nm, x, y, z, rfl, hx, hK, -, -, -, -⟩ := sc_all HS.out (k := j) (by rw [← HK.out]; exact hlt2)
          obtain ⟨b', off', nm', x', y', z', rfl, hx', hK', -, -, -, -⟩ := sc_all HS'.out (k := j) (by rw [← HK.out]; exact hlt2)
          have he := hx.out.symm.trans hx'.out
          injection he with he
          injection he with e1 he
          injection he with e2 he
          injection he with e3 e4
          subst e1 e2 e3 e4
          obtain ⟨k0, k1, k2, k3⟩ := hK.out _ hb
          obtain ⟨l0, l1, l2, l3⟩ := hK'.out _ hb
          generalize bA nm = T at *
          go_wp2
          go_quiet (fail)
          go_wp2
          go_roundw
          case rel => exact ⟨j + 1, by omega, by go_num, HB1.out.drewN _, HB2.out.drewN _, hbl, below_drewN hb _⟩
          case measure => simp [intOf]; omega
        · have hki2 : ¬ (j : Int) < (k' : Int) := by omega
          go_wp2
          go_ret
          exact ⟨rfl, hb⟩
end Go.Proofs.YtacbmmnipedpdaaDoor

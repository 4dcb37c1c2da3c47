/- Chapter 15: Few, and whether grades and catalogs are equal, of the reference, by walking their text. -/
import Derived.Test.YtacbmmnipedpdaaDoorMatW4
namespace Go.Proofs.YtacbmmnipedpdaaDoor
open Go Go.RowKit

def okG (g : Gr) : Bool := decide (g.2.2.2.length ≤ 30) && decide (g.1.length ≤ 40)
def okS (s : Sc) : Bool := decide (s.1.length ≤ 40)
theorem few_eq (m : Mat) : fewM m = (decide (m.1.length ≤ 40) && decide (m.2.length ≤ 40) && m.1.all okG && m.2.all okS) := rfl
set_option maxRecDepth 100000 in
set_option maxHeartbeats 4000000 in
theorem few15_any (A B : Option Addr) (n c k d : Nat) (m : Mat) (w : World) (hg : grR.slice.R w (Lt w) m.1 [.slice A n c]) (hs : scR.slice.R w (Lt w) m.2 [.slice B k d]) :
    Calls Tryd.prog 11 #[.agg #[.slice A n c, .slice B k d]] w (Ret (.bool (fewM m)) w) := by
  obtain ⟨hn, hnm⟩ := slice_ln hg
  obtain ⟨hk, hkm⟩ := slice_ln hs
  obtain ⟨r, hr⟩ : ∃ r, r = fewM m := ⟨_, rfl⟩
  have HR : Hid (r = (decide (m.1.length ≤ 40) && decide (m.2.length ≤ 40) && m.1.all okG && m.2.all okS)) := hr
  rw [← hr]
  clear hr
  have hbx := (Below.refl w.heap.size w).alloc (Nat.le_refl _) (.cells #[.slice A n c, .slice B k d] 25)
  have bx := Blk.new w 25 #[.slice A n c, .slice B k d]
  have c0 : (w.alloc (.cells #[.slice A n c, .slice B k d] 25)).cell? ⟨w.heap.size, 0, none⟩ = some (.slice A n c) := bx.cell 0
  have c1 : (w.alloc (.cells #[.slice A n c, .slice B k d] 25)).cell? ⟨w.heap.size, 1, none⟩ = some (.slice B k d) := bx.cell 1
  have HN := Lib.hid hn
  have HK := Lib.hid hk
  have HG := Lib.hid hg
  have HS := Lib.hid hs
  clear hn hk bx hg hs
  go_enter Tryd.func11, Tryd.ntmps11
  go_wp2
  generalize w.alloc (.cells #[.slice A n c, .slice B k d] 25) = W at *
  go_loopw [3] (fun iv wr => ∃ i : Nat, i ≤ n ∧ i ≤ 41 ∧ iv = .int .i64 i ∧ Hid ((m.1.take i).all okG = true) ∧ wr = W) (fun iv _ => n - (intOf iv).toNat)
  case atStart => exact ⟨0, Nat.zero_le _, by omega, rfl, by show (m.1.take 0).all okG = true; rfl, rfl⟩
  case round =>
    obtain ⟨i, hi, hi41, rfl, hA, rfl⟩ := hrel
    by_cases hlt : i < n ∧ i < 41
    · obtain ⟨hlt, hl41⟩ := hlt
      have hki : (i : Int) < (n : Int) := by omega
      have hki2 : (i : Int) < 41 := by omega
      obtain ⟨b, off, nm, dd, y, ts, G, ng, cg, rfl, hx, hK, hng, -, hnml, -, -, -⟩ := gr_all HG.out (k := i) (by rw [← HN.out]; exact hlt)
      obtain ⟨k0, k1, k2, k3⟩ := hK.out _ hbx
      by_cases hts : 30 < ng
      · have h1 : decide ((30 : Int) < (ng : Int)) = true := decide_eq_true (by omega)
        have e1 : r = false := by
          rw [HR.out, all_bad (p := okG) hx.out (by unfold okG; simp only [← hng.out]; rw [decide_eq_false (by omega)]; rfl)]; simp
        subst e1
        clear hts
        go_wp2
        go_ret
        exact ⟨rfl, hbx⟩
      · have h1 : decide ((30 : Int) < (ng : Int)) = false := decide_eq_false (by omega)
        by_cases hn40 : 40 < nm.length
        · have h2 : decide ((40 : Int) < (nm.length : Int)) = true := decide_eq_true (by omega)
          have e1 : r = false := by
            rw [HR.out, all_bad (p := okG) hx.out (by unfold okG; simp only; rw [decide_eq_false (p := nm.length ≤ 40) (by omega)]; simp)]; simp
          subst e1
          clear hts hn40
          go_wp2
          go_ret
          exact ⟨rfl, hbx⟩
        · have h2 : decide ((40 : Int) < (nm.length : Int)) = false := decide_eq_false (by omega)
          have HA : Hid ((m.1.take (i + 1)).all okG = true) := all_take_succ hA.out hx.out (by unfold okG; simp only [← hng.out]; rw [decide_eq_true (by omega), decide_eq_true (by omega)]; rfl)
          clear hts hn40
          go_wp2
          go_roundw
          case rel => exact ⟨i + 1, by omega, by omega, by go_num, HA.out, trivial⟩
          case measure => simp [intOf]; omega
    · have hend : Hid (i = n ∨ i = 41) := by show i = n ∨ i = 41; omega
      have hgd : ¬ (i : Int) < (n : Int) ∨ (i : Int) < (n : Int) ∧ i = 41 := by have := hend.out; omega
      have HA := Lib.hid hA.out
      have HH : Hid (n ≤ 40 → m.1.all okG = true) := fun h => by
        have h1 := HA.out
        rwa [List.take_of_length_le (by have := HN.out; have := hend.out; omega)] at h1
      clear hA HA hlt hend
      rcases hgd with hgd | ⟨hgd, rfl⟩
      all_goals
        go_wp2
        go_loopw [4] (fun iv wr' => ∃ i : Nat, i ≤ k ∧ i ≤ 41 ∧ iv = .int .i64 i ∧ Hid ((m.2.take i).all okS = true) ∧ wr' = wr) (fun iv _ => k - (intOf iv).toNat)
        case atStart => exact ⟨0, Nat.zero_le _, by omega, rfl, by show (m.2.take 0).all okS = true; rfl, rfl⟩
        case round =>
          clear hgd
          obtain ⟨j, hj, hj41, rfl, hA, rfl⟩ := hrel
          by_cases hlt : j < k ∧ j < 41
          · obtain ⟨hlt, hl41⟩ := hlt
            have hki : (j : Int) < (k : Int) := by omega
            have hki2 : (j : Int) < 41 := by omega
            obtain ⟨b, off, nm, x, y, z, rfl, hx, hK, hnml, -, -, -⟩ := sc_all HS.out (k := j) (by rw [← HK.out]; exact hlt)
            obtain ⟨k0, k1, k2, k3⟩ := hK.out _ hbx
            by_cases hn40 : 40 < nm.length
            · have h2 : decide ((40 : Int) < (nm.length : Int)) = true := decide_eq_true (by omega)
              have e1 : r = false := by
                rw [HR.out, all_bad (p := okS) hx.out (by unfold okS; simp only; rw [decide_eq_false (by omega)])]; simp
              subst e1
              clear hn40
              go_wp2
              go_ret
              exact ⟨rfl, hbx⟩
            · have h2 : decide ((40 : Int) < (nm.length : Int)) = false := decide_eq_false (by omega)
              have HA : Hid ((m.2.take (j + 1)).all okS = true) := all_take_succ hA.out hx.out (by unfold okS; simp only; rw [decide_eq_true (by omega)])
              clear hn40
              go_wp2
              go_roundw
              case rel => exact ⟨j + 1, by omega, by omega, by go_num, HA.out, trivial⟩
              case measure => simp [intOf]; omega
          · have hend : Hid (j = k ∨ j = 41) := by show j = k ∨ j = 41; omega
            have hgd : ¬ (j : Int) < (k : Int) ∨ (j : Int) < (k : Int) ∧ j = 41 := by have := hend.out; omega
            have HH2 : Hid (k ≤ 40 → m.2.all okS = true) := fun h => by
              have h1 := hA.out
              rwa [List.take_of_length_le (by have := HK.out; have := hend.out; omega)] at h1
            have HE : Hid (r = (decide ((n : Int) ≤ 40) && decide ((k : Int) ≤ 40))) := by
              show r = _
              rw [HR.out, ← HN.out, ← HK.out]
              by_cases h1 : n ≤ 40
              · by_cases h2 : k ≤ 40
                · rw [HH.out h1, HH2.out h2]
                  simp only [Bool.and_true]
                  congr 1 <;> exact decide_eq_decide.2 (by omega)
                · rw [decide_eq_false h2, decide_eq_false (p := (k : Int) ≤ 40) (by omega)]; simp
              · rw [decide_eq_false h1, decide_eq_false (p := (n : Int) ≤ 40) (by omega)]; simp
            clear hA hlt hend HR HH HH2
            by_cases h1 : (n : Int) ≤ 40
            · by_cases h2 : (k : Int) ≤ 40
              · have e1 : r = true := by rw [HE.out, decide_eq_true h1, decide_eq_true h2]; rfl
                subst e1
                rcases hgd with hgd | ⟨hgd, rfl⟩
                all_goals first
                  | (exfalso; omega)
                  | (go_wp2; go_ret; exact ⟨rfl, hbx⟩)
              · have e1 : r = false := by rw [HE.out, decide_eq_false h2]; simp
                subst e1
                rcases hgd with hgd | ⟨hgd, rfl⟩
                all_goals first
                  | (exfalso; omega)
                  | (go_wp2; go_ret; exact ⟨rfl, hbx⟩)
            · have e1 : r = false := by rw [HE.out, decide_eq_false h1]; rfl
              subst e1
              rcases hgd with hgd | ⟨hgd, rfl⟩
              all_goals
                go_wp2
                go_ret
                exact ⟨rfl, hbx⟩
theorem sameInts_eq (va vb : Value) (l : List Int) (w : World) (ha : Rep.int.slice.R w (Lt w) l [va]) (hb : Rep.int.slice.R w (Lt w) l [vb]) :
    Calls Tryd.prog 37 #[va, vb] w (Ret (.bool true) w) := by
  obtain ⟨A, c, rfl, hm, _⟩ := slice_inv ha
  obtain ⟨B, d, rfl, _, _⟩ := slice_inv hb
  go_enter Tryd.func37, Tryd.ntmps37
  go_wp2
  go_loopw [5] (fun i wr => ∃ k : Nat, k ≤ l.length ∧ i = .int .i64 k ∧ Below w.heap.size w wr) (fun i _ => l.length - (intOf i).toNat)
  case atStart => exact ⟨0, Nat.zero_le _, rfl, Below.refl _ _⟩
  case round =>
    obtain ⟨k, hk, rfl, hw⟩ := hrel
    by_cases hlt : k < l.length
    · have hki : (k : Int) < (l.length : Int) := by omega
      obtain ⟨b, off, x, rfl, hx, -, c0, -, -⟩ := ints_at (Rep.at_ ha hw) hlt
      obtain ⟨b', off', x', rfl, hx', -, d0, -, -⟩ := ints_at (Rep.at_ hb hw) hlt
      obtain rfl : x = x' := by have := hx.out.symm.trans hx'.out; injection this
      go_wp2
      go_quiet (fail)
      go_wp2
      go_roundw
      case rel => exact ⟨k + 1, by omega, by go_num, below_drewN hw _⟩
      case measure => simp [intOf]; omega
    · have hki : ¬ (k : Int) < (l.length : Int) := by omega
      go_wp2
      go_ret
      exact ⟨rfl, hw⟩
theorem gr_inv {w : World} {D : Nat → Prop} {g : Gr} {cs : List Value} (h : grR.R w D g cs) :
    ∃ G cg, cs = [.string (bA g.1), .int .i64 g.2.1, .int .i64 g.2.2.1, .slice G g.2.2.2.length cg] ∧ Rep.int.slice.R w D g.2.2.2 [.slice G g.2.2.2.length cg] ∧ g.1.length ≤ 9223372036854775807 ∧ inI64 g.2.1 ∧ inI64 g.2.2.1 ∧ g.2.2.2.length ≤ 9223372036854775807 := by
  obtain ⟨c1, c2, rfl, ⟨rfl, hs⟩, ⟨c3, c4, rfl, ⟨rfl, hd⟩, ⟨c5, c6, rfl, ⟨rfl, hy⟩, hG⟩⟩⟩ := h
  obtain ⟨G, cg, rfl, h1, h2, h4⟩ := id hG
  unfold maxLen at h2 hs
  have hs' : g.1.length ≤ 9223372036854775807 := by rw [bA_size] at hs; omega
  exact ⟨G, cg, rfl, hG, hs', hd, hy, by omega⟩
set_option maxRecDepth 100000 in
set_option maxHeartbeats 4000000 in
theorem sameGrade_eq (a b : Array Value) (g : Gr) (w : World) (ha : grR.R w (Lt w) g a.toList) (hb : grR.R w (Lt w) g b.toList) :
    Calls Tryd.prog 19 #[.agg a, .agg b] w (Ret (.bool true) w) := by
  obtain ⟨G, cg, ea, hG, -, -, -, hgl⟩ := gr_inv ha
  obtain ⟨G', cg', eb, hG', -, -, -, -⟩ := gr_inv hb
  have ea : a = #[.string (bA g.1), .int .i64 g.2.1, .int .i64 g.2.2.1, .slice G g.2.2.2.length cg] := Array.ext' (by simpa using ea)
  have eb : b = #[.string (bA g.1), .int .i64 g.2.1, .int .i64 g.2.2.1, .slice G' g.2.2.2.length cg'] := Array.ext' (by simpa using eb)
  obtain ⟨nm, d, y, ts⟩ := g
  simp only at ea eb hG hG' hgl
  subst ea eb
  have q1 := beq_self_int d
  have q3 := beq_self_int y
  generalize bA nm = T at *
  have q2 : (T.toList == T.toList) = true := by simp
  generalize ts.length = n at *
  have C1 := Lib.hid (fun W (h : Below w.heap.size w W) => sameInts_eq _ _ ts W (Rep.below hG h) (Rep.below hG' h))
  clear hG hG' ha hb
  go_enter Tryd.func19, Tryd.ntmps19
  go_wp2_with fail
  refine (C1.out _ (((Below.refl w.heap.size w).alloc (Nat.le_refl _) _).alloc (by simp) _)).mono ?_
  rintro e w1 ⟨rfl, hb1⟩
  have hbw := bstep (((Below.refl w.heap.size w).alloc (Nat.le_refl _) (.cells #[.string T, .int .i64 d, .int .i64 y, .slice G n cg] 32)).alloc (by simp) (.cells #[.string T, .int .i64 d, .int .i64 y, .slice G' n cg'] 32)) (by simp; omega) hb1
  go_wp2
  go_ret
  exact ⟨rfl, hbw⟩
theorem sc_under : Tryd.prog.underlying 36 = some (.struct (Tryd.prog.fieldsOf 36)) := by kernel_rfl
theorem sc_held : Tryd.prog.stoodInHeld 36 = false := by kernel_rfl
theorem sc_guard : Tryd.prog.eqGuardType Tryd.prog.depth 36 = false := by kernel_rfl
theorem sc_neq (T : ByteArray) (x y z : Int) (w : World) : (binOp .neq 36 (.agg #[.string T, .int .i64 x, .int .i64 y, .int .i64 z]) (.agg #[.string T, .int .i64 x, .int .i64 y, .int .i64 z])).run Tryd.prog w = .ok (.bool false) w := by
  have u3 := Tryd.underlying3
  have a3 := Tryd.isAgg3
  have z3 := Tryd.sizeOf3
  have u4 := Tryd.underlying9
  have a4 := Tryd.isAgg9
  have z4 := Tryd.sizeOf9
  rw [run_neq_struct, show (10000 : Nat) = 9999 + 1 from rfl, run_equalIn_agg w 9999 36 _ _ sc_under sc_held]
  simp only [Program.fieldsOf, Tryd.underlying36]
  go_simp
  try simp
theorem sc_eqg (op : BinOp) (p q : Operand) (xs ys : Array Value) (w : World) : (eqGuard op 36 p q (.agg xs) (.agg ys)).run Tryd.prog w = .ok () w := run_eqGuard_agg w op _ p q xs ys sc_guard
end Go.Proofs.YtacbmmnipedpdaaDoor

/- Chapter 15: the reference's Check, by walking its text. -/
import Derived.Test.YtacbmmnipedpdaaDoorMatW4
namespace Go.Proofs.YtacbmmnipedpdaaDoor
open Go Go.RowKit

set_option maxRecDepth 100000 in
set_option maxHeartbeats 4000000 in
theorem refCheck15_any (A B : Option Addr) (n c k d : Nat) (m : Mat) (w : World) (hg : grR.slice.R w (Lt w) m.1 [.slice A n c]) (hs : scR.slice.R w (Lt w) m.2 [.slice B k d]) :
    Calls Tryd.prog 13 #[.agg #[.slice A n c, .slice B k d]] w (Ret (.int .i64 (checkM m)) w) := by
  obtain ⟨hn, hnm⟩ := slice_ln hg
  obtain ⟨hk, hkm⟩ := slice_ln hs
  obtain ⟨r, hr⟩ : ∃ r, r = checkM m := ⟨_, rfl⟩
  have HR : Hid (r = if 16 < m.1.length ∨ 32 < m.2.length then 4 else if gradesF m.1 ≠ 0 then gradesF m.1 else sectsF m.2) := hr
  rw [← hr]
  clear hr
  have hbx := (Below.refl w.heap.size w).alloc (Nat.le_refl _) (.cells #[.slice A n c, .slice B k d] 25)
  have bx := Blk.new w 25 #[.slice A n c, .slice B k d]
  have hBl : w.heap.size < (w.alloc (.cells #[.slice A n c, .slice B k d] 25)).heap.size := by simp
  have c0 : (w.alloc (.cells #[.slice A n c, .slice B k d] 25)).cell? ⟨w.heap.size, 0, none⟩ = some (.slice A n c) := bx.cell 0
  have c1 : (w.alloc (.cells #[.slice A n c, .slice B k d] 25)).cell? ⟨w.heap.size, 1, none⟩ = some (.slice B k d) := bx.cell 1
  have HN := Lib.hid hn
  have HK := Lib.hid hk
  have HBX := Lib.hid bx
  have CG := Lib.hid (refGrades_any A n c m.1 _ (Rep.below hg hbx))
  have HS := Lib.hid hs
  clear hn hk bx hg hs
  by_cases hlong : 16 < n ∨ 32 < k
  · have e1 : r = 4 := by rw [HR.out, if_pos (by have := HN.out; have := HK.out; omega)]
    subst e1
    rcases hlong with h1 | h1
    · have h2 : decide ((16 : Int) < (n : Int)) = true := decide_eq_true (by omega)
      clear h1
      go_enter Tryd.func13, Tryd.ntmps13
      go_wp2
      go_ret
      exact ⟨rfl, hbx⟩
    · have h2 : decide ((32 : Int) < (k : Int)) = true := decide_eq_true (by omega)
      clear h1
      go_enter Tryd.func13, Tryd.ntmps13
      go_wp2
      all_goals
        go_ret
        exact ⟨rfl, hbx⟩
  · have h1 : decide ((16 : Int) < (n : Int)) = false := decide_eq_false (by omega)
    have h2 : decide ((32 : Int) < (k : Int)) = false := decide_eq_false (by omega)
    have hn16 : n ≤ 16 := by omega
    have hk32 : k ≤ 32 := by omega
    have HR1 : Hid (r = if gradesF m.1 ≠ 0 then gradesF m.1 else sectsF m.2) := by show r = _; rw [HR.out, if_neg (by have := HN.out; have := HK.out; omega)]
    generalize gradesF m.1 = ge at *
    clear HR hlong
    go_enter Tryd.func13, Tryd.ntmps13
    go_wp2_with fail
    refine CG.out.mono ?_
    rintro e w1 ⟨rfl, hb1⟩
    have hbw := bstep hbx hbx.size hb1
    have bk := HBX.out.below hb1 hBl
    have hwl1 : w.heap.size < w1.heap.size := Nat.lt_of_lt_of_le hBl hb1.size
    clear CG c0 c1 HBX hBl hbx hb1
    have c0 : w1.cell? ⟨w.heap.size, 0, none⟩ = some (.slice A n c) := bk.cell 0
    have c1 : w1.cell? ⟨w.heap.size, 1, none⟩ = some (.slice B k d) := bk.cell 1
    by_cases hge : ge = 0
    · have hbe : (ge != 0) = false := by rw [hge]; rfl
      have HR2 : Hid (r = sectsF m.2) := by show r = _; rw [HR1.out, if_neg (by simp [hge])]
      clear hge HR1
      have HBK := Lib.hid bk
      clear bk
      go_wp2
      go_loopw [4] (fun iv wr => ∃ i : Nat, i ≤ k ∧ iv = .int .i64 i ∧ Hid (r = listF sectE (·.1) (nPrev (·.1) m.2 i) (m.2.drop i)) ∧ Hid (Blk wr w.heap.size 25 #[.slice A n c, .slice B k d]) ∧ w.heap.size < wr.heap.size ∧ Below w.heap.size w wr) (fun iv _ => k - (intOf iv).toNat)
      case atStart => exact ⟨0, Nat.zero_le _, rfl, HR2.out, HBK.out, hwl1, hbw⟩
      case round =>
        clear hbw hwl1 HBK c0 c1
        obtain ⟨i, hi, rfl, hr, HBK, hwl, hb⟩ := hrel
        have c0 : wr.cell? ⟨w.heap.size, 0, none⟩ = some (.slice A n c) := HBK.out.cell 0
        have c1 : wr.cell? ⟨w.heap.size, 1, none⟩ = some (.slice B k d) := HBK.out.cell 1
        by_cases hlt : i < k
        · have hki : (i : Int) < (k : Int) := by omega
          obtain ⟨b, off, nm, x, y, z, rfl, hx, hK, hnml, -, -, -⟩ := sc_all HS.out (k := i) (by rw [← HK.out]; exact hlt)
          have hba := (Below.refl wr.heap.size wr).alloc (Nat.le_refl _) (.cells #[.string (bA nm), .int .i64 x, .int .i64 y, .int .i64 z] 36)
          have bn := Blk.new wr 36 #[.string (bA nm), .int .i64 x, .int .i64 y, .int .i64 z]
          have hbl : wr.heap.size < (wr.alloc (.cells #[.string (bA nm), .int .i64 x, .int .i64 y, .int .i64 z] 36)).heap.size := by simp
          have hA := fun w => refName_any (bA nm) w (by rw [bA_size]; exact hnml)
          rw [bA_list] at hA
          have HA := Lib.hid hA
          have HD : Hid (listF sectE (·.1) (nPrev (·.1) m.2 i) (m.2.drop i) = r) := hr.out.symm
          rw [listF_step (E := sectE) (nm := (·.1)) hx.out, show sectE (nm, x, y, z) = if isNameF nm = false then 6 else if inB x 1 1000000 = false ∨ inB y 1 2000 = false ∨ inB z 100 32768 = false then 9 else 0 from rfl] at HD
          have hP : i ≠ 0 → ∃ j nm', i = j + 1 ∧ nPrev (·.1) m.2 i = some nm' ∧ (∀ W, Below w.heap.size w W → W.cell? ⟨b, off + j * 4, none⟩ = some (.string (bA nm'))) := fun h0 => by
            obtain ⟨j, rfl⟩ : ∃ j, i = j + 1 := ⟨i - 1, by omega⟩
            obtain ⟨b', off', nm', _, _, _, eA, hx', hK', -⟩ := sc_all HS.out (k := j) (by rw [← HK.out]; omega)
            injection eA with eA
            injection eA with eb eo _
            subst eb eo
            exact ⟨j, nm', rfl, prev_name hx'.out, fun W hW => (hK'.out W hW).1⟩
          have HP := Lib.hid hP
          have HBN := Lib.hid bn
          have hwr := hb.size
          obtain ⟨k0, k1, k2, k3⟩ := hK.out _ hb
          clear hA hr hP bn
          go_wp2_with fail
          refine (HA.out _).mono ?_
          rintro e w2 ⟨rfl, hb1⟩
          have hb2 := bstep hba hba.size hb1
          have hbz := bstep hb hb.size hb2
          have bn := HBN.out.below hb1 hbl
          have bk := HBK.out.below hb2 hwl
          have n0 : w2.cell? ⟨wr.heap.size, 0, none⟩ = some (.string (bA nm)) := bn.cell 0
          have n1 : w2.cell? ⟨wr.heap.size, 1, none⟩ = some (.int .i64 x) := bn.cell 1
          have n2 : w2.cell? ⟨wr.heap.size, 2, none⟩ = some (.int .i64 y) := bn.cell 2
          have n3 : w2.cell? ⟨wr.heap.size, 3, none⟩ = some (.int .i64 z) := bn.cell 3
          have d0 : w2.cell? ⟨w.heap.size, 0, none⟩ = some (.slice A n c) := bk.cell 0
          have d1 : w2.cell? ⟨w.heap.size, 1, none⟩ = some (.slice (some ⟨b, off, none⟩) k d) := bk.cell 1
          have hwl2 : w.heap.size < w2.heap.size := Nat.lt_of_lt_of_le hwl hb2.size
          clear HBK
          have HBK := Lib.hid bk
          clear bn bk k0 k1 k2 k3 hba hbl HBN c0 c1 HA hb1 hb2
          cases hN : isNameF nm
          · have e1 : r = 6 := by rw [← HD.out, if_pos (by rw [if_pos hN]; decide), if_pos hN]
            subst e1
            go_wp2
            go_ret
            exact ⟨rfl, hbz⟩
          · go_wp2_with fail
            refine (refIn_any _ _ _ _).mono ?_
            rintro e w3 ⟨rfl, rfl⟩
            cases hD : inB x 1 1000000
            · have e1 : r = 9 := by rw [← HD.out, if_neg (c := isNameF nm = false) (by simp [hN]), if_pos (c := inB x 1 1000000 = false ∨ inB y 1 2000 = false ∨ inB z 100 32768 = false) (.inl hD), if_pos (by decide)]
              subst e1
              go_wp2
              go_ret
              exact ⟨rfl, hbz⟩
            · go_wp2_with fail
              refine (refIn_any _ _ _ _).mono ?_
              rintro e w3 ⟨rfl, rfl⟩
              cases hY : inB y 1 2000
              · have e1 : r = 9 := by rw [← HD.out, if_neg (c := isNameF nm = false) (by simp [hN]), if_pos (c := inB x 1 1000000 = false ∨ inB y 1 2000 = false ∨ inB z 100 32768 = false) (.inr (.inl hY)), if_pos (by decide)]
                subst e1
                go_wp2
                go_ret
                exact ⟨rfl, hbz⟩
              · go_wp2_with fail
                refine (refIn_any _ _ _ _).mono ?_
                rintro e w3 ⟨rfl, rfl⟩
                cases hZ : inB z 100 32768
                · have e1 : r = 9 := by rw [← HD.out, if_neg (c := isNameF nm = false) (by simp [hN]), if_pos (c := inB x 1 1000000 = false ∨ inB y 1 2000 = false ∨ inB z 100 32768 = false) (.inr (.inr hZ)), if_pos (by decide)]
                  subst e1
                  go_wp2
                  go_ret
                  exact ⟨rfl, hbz⟩
                · have HD3 : Hid ((if backB (nPrev (·.1) m.2 i) nm = true then 11 else listF sectE (·.1) (nPrev (·.1) m.2 (i + 1)) (m.2.drop (i + 1))) = r) := by
                    have := HD.out
                    rw [if_neg (c := isNameF nm = false) (by simp [hN]), if_neg (c := inB x 1 1000000 = false ∨ inB y 1 2000 = false ∨ inB z 100 32768 = false) (by simp [hD, hY, hZ]), if_neg (by decide)] at this
                    exact this
                  clear HD hN hD hY hZ
                  by_cases hi0 : i = 0
                  · subst hi0
                    have HS3 : Hid (r = listF sectE (·.1) (nPrev (·.1) m.2 1) (m.2.drop 1)) := by
                      have := HD3.out
                      rw [if_neg (by simp [nPrev, backB])] at this
                      exact this.symm
                    clear HD3 HP
                    go_wp2
                    go_quiet (fail)
                    go_wp2
                    go_roundw
                    case rel => exact ⟨1, by omega, by go_num, HS3.out, HBK.out.drewN _, hwl2, below_drewN hbz _⟩
                    case measure => simp [intOf]; omega
                  · obtain ⟨j, nm', rfl, hp, hk'⟩ := HP.out hi0
                    have p0 := hk' _ hbz
                    have hj0 : decide ((0 : Int) < ((j + 1 : Nat) : Int)) = true := decide_eq_true (by omega)
                    have hj1 : ((j + 1 : Nat) : Int) - 1 = (j : Int) := by omega
                    have hw1 : IntKind.i64.wrap (((j + 1 : Nat) : Int) - 1) = (j : Int) := by rw [hj1]; exact IntWalk.i64_in _ (by omega)
                    rw [hp] at HD3
                    clear HP hp hk' hi0
                    go_wp2
                    go_quiet (fail)
                    rw [back_leq]
                    cases hbb : backB (some nm') nm
                    · have HS3 : Hid (r = listF sectE (·.1) (nPrev (·.1) m.2 (j + 1 + 1)) (m.2.drop (j + 1 + 1))) := by
                        have := HD3.out
                        rw [if_neg (by simp [hbb])] at this
                        exact this.symm
                      clear HD3
                      go_wp2
                      go_roundw
                      case rel => exact ⟨j + 1 + 1, by omega, by go_num, HS3.out, HBK.out.drewN _, hwl2, below_drewN hbz _⟩
                      case measure => simp [intOf]; omega
                    · have e1 : r = 11 := by
                        have := HD3.out
                        rw [if_pos hbb] at this
                        exact this.symm
                      subst e1
                      go_wp2
                      go_ret
                      exact ⟨rfl, below_drewN hbz _⟩
        · have hki : ¬ (i : Int) < (k : Int) := by omega
          have e1 : r = 0 := by
            have : i = m.2.length := by have := HK.out; omega
            rw [hr.out, this, listF_end]
          subst e1
          go_wp2
          go_ret
          exact ⟨rfl, hb⟩
    · have hbe : (ge != 0) = true := bne_iff_ne.2 hge
      have e1 : r = ge := by rw [HR1.out, if_pos hge]
      subst e1
      clear hge
      go_wp2
      go_ret
      exact ⟨rfl, hbw⟩
end Go.Proofs.YtacbmmnipedpdaaDoor

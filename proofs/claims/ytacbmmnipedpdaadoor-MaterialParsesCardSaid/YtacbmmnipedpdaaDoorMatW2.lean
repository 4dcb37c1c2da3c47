/- Chapter 15: grade and section of material, by walking their text. -/
import Derived.Test.YtacbmmnipedpdaaDoorMatW1
namespace Go.Proofs.YtacbmmnipedpdaaDoor
open Go Go.RowKit

def gPrev (ts : List Int) (i : Nat) : Option Int := if i = 0 then none else ts[i - 1]?
theorem gauge_step {ts : List Int} {i : Nat} {t : Int} (h : ts[i]? = some t) :
    gaugeF (gPrev ts i) (ts.drop i) = if inB t 1 120 = false then 9 else if lowG (gPrev ts i) t = true then 11 else gaugeF (gPrev ts (i + 1)) (ts.drop (i + 1)) := by
  have hd : ts.drop i = t :: ts.drop (i + 1) := by
    have hi := lt_of_get h
    rw [List.drop_eq_getElem_cons hi]
    rw [List.getElem?_eq_getElem hi] at h
    injection h with h
    rw [h]
  rw [hd, gaugeF]
  have : gPrev ts (i + 1) = some t := by unfold gPrev; rw [if_neg (by omega)]; exact h
  rw [this]
theorem gauge_end {ts : List Int} : gaugeF (gPrev ts ts.length) (ts.drop ts.length) = 0 := by rw [List.drop_length]; rfl
theorem gauge_start (ts : List Int) : gaugeF none ts = gaugeF (gPrev ts 0) (ts.drop 0) := rfl
set_option maxRecDepth 100000 in
set_option maxHeartbeats 4000000 in
theorem matGrade_any (nm : List UInt8) (d y : Int) (ts : List Int) (G : Option Addr) (ng cg : Nat) (w : World) (hG : Rep.int.slice.R w (Lt w) ts [.slice G ng cg]) (hz : nm.length ≤ 9223372036854775807) :
    Calls Tryd.prog 27 #[.agg #[.string (bA nm), .int .i64 d, .int .i64 y, .slice G ng cg]] w (Ret (.int .i64 (gradeE (nm, d, y, ts))) w) := by
  obtain ⟨hng, hnm⟩ := slice_ln hG
  have hbx := (Below.refl w.heap.size w).alloc (Nat.le_refl _) (.cells #[.string (bA nm), .int .i64 d, .int .i64 y, .slice G ng cg] 32)
  have bx := Blk.new w 32 #[.string (bA nm), .int .i64 d, .int .i64 y, .slice G ng cg]
  have hBl : w.heap.size < (w.alloc (.cells #[.string (bA nm), .int .i64 d, .int .i64 y, .slice G ng cg] 32)).heap.size := by simp
  obtain ⟨r, hr⟩ : ∃ r, r = gradeE (nm, d, y, ts) := ⟨_, rfl⟩
  have HR : Hid (r = if isNameF nm = false then 6 else if inB d 1000 20000 = false ∨ inB y 100 1500 = false then 9 else if ts.length = 0 then 3 else if 16 < ts.length then 4 else gaugeF none ts) := hr
  rw [← hr]
  clear hr
  have HN := Lib.hid hng
  have hA := fun w => isName_any (bA nm) w (by rw [bA_size]; exact hz)
  rw [bA_list] at hA
  have HA := Lib.hid hA
  have HBX := Lib.hid bx
  have HG := Lib.hid hG
  have hw0 := hbx.size
  clear hng hA bx hG
  go_enter Tryd.func27, Tryd.ntmps27
  go_wp2_with fail
  refine (HA.out _).mono ?_
  rintro e w1 ⟨rfl, hb1⟩
  have hbw := bstep hbx hbx.size hb1
  have bx1 := HBX.out.below hb1 hBl
  have c0 : w1.cell? ⟨w.heap.size, 0, none⟩ = some (.string (bA nm)) := bx1.cell 0
  have c1 : w1.cell? ⟨w.heap.size, 1, none⟩ = some (.int .i64 d) := bx1.cell 1
  have c2 : w1.cell? ⟨w.heap.size, 2, none⟩ = some (.int .i64 y) := bx1.cell 2
  have c3 : w1.cell? ⟨w.heap.size, 3, none⟩ = some (.slice G ng cg) := bx1.cell 3
  clear bx1 hb1
  cases hN : isNameF nm
  · have e1 : r = 6 := by rw [HR.out, if_pos hN]
    subst e1
    go_wp2
    go_ret
    exact ⟨rfl, hbw⟩
  · cases hD : inB d 1000 20000
    · have e1 : r = 9 := by rw [HR.out, if_neg (by simp [hN]), if_pos (.inl hD)]
      subst e1
      go_wp2_with fail
      refine (between_any _ _ _ _).mono ?_
      rintro e w2 ⟨rfl, rfl⟩
      rw [hD]
      go_wp2
      go_ret
      exact ⟨rfl, hbw⟩
    · go_wp2_with fail
      refine (between_any _ _ _ _).mono ?_
      rintro e w2 ⟨rfl, rfl⟩
      rw [hD]
      go_wp2_with fail
      refine (between_any _ _ _ _).mono ?_
      rintro e w2 ⟨rfl, rfl⟩
      cases hY : inB y 100 1500
      · have e1 : r = 9 := by rw [HR.out, if_neg (by simp [hN]), if_pos (.inr hY)]
        subst e1
        go_wp2
        go_ret
        exact ⟨rfl, hbw⟩
      · have HR1 : Hid (r = if ts.length = 0 then 3 else if 16 < ts.length then 4 else gaugeF none ts) := by show r = _; rw [HR.out, if_neg (by simp [hN]), if_neg (by simp [hD, hY])]
        have hl := HN.out
        clear HR HA hN hD hY
        by_cases h0 : ts.length = 0
        · have e1 : r = 3 := by rw [HR1.out, if_pos h0]
          have hz0 : ng = 0 := by omega
          subst e1 hz0
          clear hl h0 HN
          go_wp2
          go_ret
          exact ⟨rfl, hbw⟩
        · have hz0 : ((ng : Int) == 0) = false := beq_eq_false_iff_ne.2 (by omega)
          by_cases h16 : 16 < ts.length
          · have e1 : r = 4 := by rw [HR1.out, if_neg h0, if_pos h16]
            have hz1 : (16 : Int) < (ng : Int) := by omega
            subst e1
            clear hl h0 h16
            go_wp2
            go_ret
            exact ⟨rfl, hbw⟩
          · have hz1 : decide ((16 : Int) < (ng : Int)) = false := decide_eq_false (by omega)
            have HR2 : Hid (r = gaugeF none ts) := by show r = _; rw [HR1.out, if_neg h0, if_neg h16]
            have hng16 : ng ≤ 16 := by omega
            clear hl h0 h16 HR1
            go_wp2
            go_loop [34] (fun iv => ∃ i : Nat, i ≤ ng ∧ iv = .int .i64 i ∧ Hid (r = gaugeF (gPrev ts i) (ts.drop i))) (fun iv => ng - (intOf iv).toNat)
            case atStart => exact ⟨0, Nat.zero_le _, rfl, HR2.out⟩
            case round =>
              obtain ⟨i, hi, rfl, hr⟩ := hrel
              by_cases hlt : i < ng
              · have hki : (i : Int) < (ng : Int) := by omega
                obtain ⟨b, off, x, rfl, hx, -, k0, hx1, hx2⟩ := ints_at (Rep.at_ HG.out hbw) (by rw [← HN.out]; exact hlt)
                have HS : Hid (r = if inB x 1 120 = false then 9 else if lowG (gPrev ts i) x = true then 11 else gaugeF (gPrev ts (i + 1)) (ts.drop (i + 1))) := by
                  show r = _; rw [hr.out, gauge_step hx.out]
                go_wp2_with fail
                refine (between_any _ _ _ _).mono ?_
                rintro e w2 ⟨rfl, rfl⟩
                cases hT : inB x 1 120
                · have e1 : r = 9 := by rw [HS.out, if_pos hT]
                  subst e1
                  go_wp2
                  go_ret
                  exact ⟨rfl, hbw⟩
                · have HS2 : Hid (r = if lowG (gPrev ts i) x = true then 11 else gaugeF (gPrev ts (i + 1)) (ts.drop (i + 1))) := by
                    show r = _; rw [HS.out, if_neg (by simp [hT])]
                  clear HS hT hr
                  by_cases hi0 : i = 0
                  · subst hi0
                    have HS3 : Hid (r = gaugeF (gPrev ts 1) (ts.drop 1)) := HS2.out
                    clear HS2
                    go_wp2
                    go_round
                    case rel => exact ⟨1, by omega, by go_num, HS3.out⟩
                    case measure => simp [intOf]; omega
                  · obtain ⟨j, rfl⟩ : ∃ j, i = j + 1 := ⟨i - 1, by omega⟩
                    obtain ⟨b', off', z, eA, hzx, -, k1, hz1, hz2⟩ := ints_at (Rep.at_ HG.out hbw) (k := j) (by rw [← HN.out]; omega)
                    injection eA with eA
                    injection eA with eb eo _
                    subst eb eo
                    have HS3 : Hid (r = if decide (x ≤ z) = true then 11 else gaugeF (gPrev ts (j + 1 + 1)) (ts.drop (j + 1 + 1))) := by
                      show r = _
                      rw [HS2.out]
                      rw [show gPrev ts (j + 1) = some z from by unfold gPrev; rw [if_neg (by omega), Nat.add_sub_cancel]; exact hzx.out]; rfl
                    have hj1 : ((j + 1 : Nat) : Int) - 1 = (j : Int) := by omega
                    have hw1 : IntKind.i64.wrap (((j + 1 : Nat) : Int) - 1) = (j : Int) := by rw [hj1]; exact IntWalk.i64_in _ (by omega)
                    clear HS2
                    by_cases hxz : x ≤ z
                    · have e1 : r = 11 := by rw [HS3.out, if_pos (by simpa using hxz)]
                      subst e1
                      go_wp2
                      go_ret
                      exact ⟨rfl, hbw⟩
                    · have HS4 : Hid (r = gaugeF (gPrev ts (j + 1 + 1)) (ts.drop (j + 1 + 1))) := by show r = _; rw [HS3.out, if_neg (by simpa using hxz)]
                      clear HS3
                      go_wp2
                      go_round
                      case rel => exact ⟨j + 1 + 1, by omega, by go_num, HS4.out⟩
                      case measure => simp [intOf]; omega
              · have hki : ¬ (i : Int) < (ng : Int) := by omega
                have e1 : r = 0 := by
                  have : i = ts.length := by have := HN.out; omega
                  rw [hr.out, this, gauge_end]
                subst e1
                go_wp2
                go_ret
                exact ⟨rfl, hbw⟩
set_option maxRecDepth 100000 in
set_option maxHeartbeats 4000000 in
theorem matSection_any (nm : List UInt8) (x y z : Int) (w : World) (hz : nm.length ≤ 9223372036854775807) :
    Calls Tryd.prog 28 #[.agg #[.string (bA nm), .int .i64 x, .int .i64 y, .int .i64 z]] w (Ret (.int .i64 (sectE (nm, x, y, z))) w) := by
  have hbx := (Below.refl w.heap.size w).alloc (Nat.le_refl _) (.cells #[.string (bA nm), .int .i64 x, .int .i64 y, .int .i64 z] 36)
  have bx := Blk.new w 36 #[.string (bA nm), .int .i64 x, .int .i64 y, .int .i64 z]
  have hBl : w.heap.size < (w.alloc (.cells #[.string (bA nm), .int .i64 x, .int .i64 y, .int .i64 z] 36)).heap.size := by simp
  obtain ⟨r, hr⟩ : ∃ r, r = sectE (nm, x, y, z) := ⟨_, rfl⟩
  have HR : Hid (r = if isNameF nm = false then 6 else if inB x 1 1000000 = false ∨ inB y 1 2000 = false ∨ inB z 100 32768 = false then 9 else 0) := hr
  rw [← hr]
  clear hr
  have hA := fun w => isName_any (bA nm) w (by rw [bA_size]; exact hz)
  rw [bA_list] at hA
  have HA := Lib.hid hA
  have HBX := Lib.hid bx
  clear hA bx
  go_enter Tryd.func28, Tryd.ntmps28
  go_wp2_with fail
  refine (HA.out _).mono ?_
  rintro e w1 ⟨rfl, hb1⟩
  have hbw := bstep hbx hbx.size hb1
  have bx1 := HBX.out.below hb1 hBl
  have c0 : w1.cell? ⟨w.heap.size, 0, none⟩ = some (.string (bA nm)) := bx1.cell 0
  have c1 : w1.cell? ⟨w.heap.size, 1, none⟩ = some (.int .i64 x) := bx1.cell 1
  have c2 : w1.cell? ⟨w.heap.size, 2, none⟩ = some (.int .i64 y) := bx1.cell 2
  have c3 : w1.cell? ⟨w.heap.size, 3, none⟩ = some (.int .i64 z) := bx1.cell 3
  clear bx1 hb1
  cases hN : isNameF nm
  · have e1 : r = 6 := by rw [HR.out, if_pos hN]
    subst e1
    go_wp2
    go_ret
    exact ⟨rfl, hbw⟩
  · cases hD : inB x 1 1000000
    · have e1 : r = 9 := by rw [HR.out, if_neg (by simp [hN]), if_pos (.inl hD)]
      subst e1
      go_wp2_with fail
      refine (between_any _ _ _ _).mono ?_
      rintro e w2 ⟨rfl, rfl⟩
      rw [hD]
      go_wp2
      go_ret
      exact ⟨rfl, hbw⟩
    · go_wp2_with fail
      refine (between_any _ _ _ _).mono ?_
      rintro e w2 ⟨rfl, rfl⟩
      rw [hD]
      go_wp2_with fail
      refine (between_any _ _ _ _).mono ?_
      rintro e w2 ⟨rfl, rfl⟩
      cases hY : inB y 1 2000
      · have e1 : r = 9 := by rw [HR.out, if_neg (by simp [hN]), if_pos (.inr (.inl hY))]
        subst e1
        go_wp2
        go_ret
        exact ⟨rfl, hbw⟩
      · go_wp2_with fail
        refine (between_any _ _ _ _).mono ?_
        rintro e w2 ⟨rfl, rfl⟩
        cases hZ : inB z 100 32768
        · have e1 : r = 9 := by rw [HR.out, if_neg (by simp [hN]), if_pos (.inr (.inr hZ))]
          subst e1
          go_wp2
          go_ret
          exact ⟨rfl, hbw⟩
        · have e1 : r = 0 := by rw [HR.out, if_neg (by simp [hN]), if_neg (by simp [hD, hY, hZ])]
          subst e1
          go_wp2
          go_ret
          exact ⟨rfl, hbw⟩
end Go.Proofs.YtacbmmnipedpdaaDoor

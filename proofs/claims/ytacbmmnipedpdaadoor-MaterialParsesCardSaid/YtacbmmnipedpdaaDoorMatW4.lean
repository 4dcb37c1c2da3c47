/- Chapter 15: the reference's gauges, grades and Check, by walking their text. -/
import Derived.Test.YtacbmmnipedpdaaDoorMatW3
namespace Go.Proofs.YtacbmmnipedpdaaDoor
open Go Go.RowKit

/-- grade k, whose cells lie where they lay in all later worlds. -/
theorem gr_all {w : World} {l : List Gr} {A : Option Addr} {n c : Nat} (h : grR.slice.R w (Lt w) l [.slice A n c]) {k : Nat} (hk : k < l.length) :
    ∃ b off nm d y ts G ng cg, A = some ⟨b, off, none⟩ ∧ Hid (l[k]? = some (nm, d, y, ts)) ∧ Hid (∀ W, Below w.heap.size w W → W.cell? ⟨b, off + k * 4, none⟩ = some (.string (bA nm)) ∧ W.cell? ⟨b, off + k * 4 + 1, none⟩ = some (.int .i64 d) ∧ W.cell? ⟨b, off + k * 4 + 2, none⟩ = some (.int .i64 y) ∧ W.cell? ⟨b, off + k * 4 + 3, none⟩ = some (.slice G ng cg)) ∧
      Hid (ng = ts.length) ∧ Hid (∀ W, Below w.heap.size w W → Rep.int.slice.R W (Lt W) ts [.slice G ng cg]) ∧ nm.length ≤ 9223372036854775807 ∧ inI64 d ∧ inI64 y ∧ ng ≤ 9223372036854775807 := by
  obtain ⟨b, off, nm, d, y, ts, G, ng, cg, e, hx, hb, c0, c1, c2, c3, hn, hG, r⟩ := gr_at h hk
  refine ⟨b, off, nm, d, y, ts, G, ng, cg, e, hx, fun W hW => ?_, hn, fun W hW => Rep.below hG hW, r⟩
  have hc := (bcell hW).1
  exact ⟨(hc _ _ hb).trans c0, (hc _ _ hb).trans c1, (hc _ _ hb).trans c2, (hc _ _ hb).trans c3⟩
theorem sc_all {w : World} {l : List Sc} {A : Option Addr} {n c : Nat} (h : scR.slice.R w (Lt w) l [.slice A n c]) {k : Nat} (hk : k < l.length) :
    ∃ b off nm x y z, A = some ⟨b, off, none⟩ ∧ Hid (l[k]? = some (nm, x, y, z)) ∧ Hid (∀ W, Below w.heap.size w W → W.cell? ⟨b, off + k * 4, none⟩ = some (.string (bA nm)) ∧ W.cell? ⟨b, off + k * 4 + 1, none⟩ = some (.int .i64 x) ∧ W.cell? ⟨b, off + k * 4 + 2, none⟩ = some (.int .i64 y) ∧ W.cell? ⟨b, off + k * 4 + 3, none⟩ = some (.int .i64 z)) ∧
      nm.length ≤ 9223372036854775807 ∧ inI64 x ∧ inI64 y ∧ inI64 z := by
  obtain ⟨b, off, nm, x, y, z, e, hx, hb, c0, c1, c2, c3, r⟩ := sc_at h hk
  refine ⟨b, off, nm, x, y, z, e, hx, fun W hW => ?_, r⟩
  have hc := (bcell hW).1
  exact ⟨(hc _ _ hb).trans c0, (hc _ _ hb).trans c1, (hc _ _ hb).trans c2, (hc _ _ hb).trans c3⟩
theorem prev_name {α : Type} {nm : α → List UInt8} {l : List α} {j : Nat} {g : α} (h : l[j]? = some g) : nPrev nm l (j + 1) = some (nm g) := by
  unfold nPrev; rw [if_neg (by omega), Nat.add_sub_cancel, h]; rfl
def gaugesE (ts : List Int) : Int := if ts.length = 0 then 3 else if 16 < ts.length then 4 else gaugeF none ts
theorem gradeE_eq (nm : List UInt8) (d y : Int) (ts : List Int) : gradeE (nm, d, y, ts) = if isNameF nm = false then 6 else if inB d 1000 20000 = false ∨ inB y 100 1500 = false then 9 else gaugesE ts := rfl
set_option maxRecDepth 100000 in
set_option maxHeartbeats 4000000 in
theorem refGauges_any (ts : List Int) (G : Option Addr) (ng cg : Nat) (w : World) (hG : Rep.int.slice.R w (Lt w) ts [.slice G ng cg]) :
    Calls Tryd.prog 55 #[.slice G ng cg] w (Ret (.int .i64 (gaugesE ts)) w) := by
  obtain ⟨hng, hnm⟩ := slice_ln hG
  obtain ⟨r, hr⟩ : ∃ r, r = gaugesE ts := ⟨_, rfl⟩
  have HR1 : Hid (r = if ts.length = 0 then 3 else if 16 < ts.length then 4 else gaugeF none ts) := hr
  rw [← hr]
  have HN := Lib.hid hng
  have HG := Lib.hid hG
  have hl := hng
  clear hr hng hG
  by_cases h0 : ts.length = 0
  · have e1 : r = 3 := by rw [HR1.out, if_pos h0]
    have hz0 : ng = 0 := by omega
    subst e1 hz0
    clear hl h0 HN
    go_enter Tryd.func55, Tryd.ntmps55
    go_wp2
    go_ret
    exact ⟨rfl, Below.refl _ _⟩
  · have hz0 : ((ng : Int) == 0) = false := beq_eq_false_iff_ne.2 (by omega)
    by_cases h16 : 16 < ts.length
    · have e1 : r = 4 := by rw [HR1.out, if_neg h0, if_pos h16]
      have hz1 : decide ((16 : Int) < (ng : Int)) = true := decide_eq_true (by omega)
      subst e1
      clear hl h0 h16
      go_enter Tryd.func55, Tryd.ntmps55
      go_wp2
      go_ret
      exact ⟨rfl, Below.refl _ _⟩
    · have hz1 : decide ((16 : Int) < (ng : Int)) = false := decide_eq_false (by omega)
      have HR2 : Hid (r = gaugeF none ts) := by show r = _; rw [HR1.out, if_neg h0, if_neg h16]
      have hng16 : ng ≤ 16 := by omega
      clear hl h0 h16 HR1
      go_enter Tryd.func55, Tryd.ntmps55
      go_wp2
      go_loopw [3] (fun iv wr => ∃ i : Nat, i ≤ ng ∧ iv = .int .i64 i ∧ Hid (r = gaugeF (gPrev ts i) (ts.drop i)) ∧ Below w.heap.size w wr) (fun iv _ => ng - (intOf iv).toNat)
      case atStart => exact ⟨0, Nat.zero_le _, rfl, HR2.out, Below.refl _ _⟩
      case round =>
        obtain ⟨i, hi, rfl, hr, hb⟩ := hrel
        by_cases hlt : i < ng
        · have hki : (i : Int) < (ng : Int) := by omega
          obtain ⟨b, off, x, rfl, hx, -, k0, hx1, hx2⟩ := ints_at (Rep.at_ HG.out hb) (by rw [← HN.out]; exact hlt)
          have HS : Hid (r = if inB x 1 120 = false then 9 else if lowG (gPrev ts i) x = true then 11 else gaugeF (gPrev ts (i + 1)) (ts.drop (i + 1))) := by
            show r = _; rw [hr.out, gauge_step hx.out]
          go_wp2_with fail
          refine (refIn_any _ _ _ _).mono ?_
          rintro e w2 ⟨rfl, rfl⟩
          cases hT : inB x 1 120
          · have e1 : r = 9 := by rw [HS.out, if_pos hT]
            subst e1
            go_wp2
            go_ret
            exact ⟨rfl, hb⟩
          · have HS2 : Hid (r = if lowG (gPrev ts i) x = true then 11 else gaugeF (gPrev ts (i + 1)) (ts.drop (i + 1))) := by
              show r = _; rw [HS.out, if_neg (by simp [hT])]
            clear HS hT hr
            by_cases hi0 : i = 0
            · subst hi0
              have HS3 : Hid (r = gaugeF (gPrev ts 1) (ts.drop 1)) := HS2.out
              clear HS2
              go_wp2
              go_quiet (fail)
              go_wp2
              go_roundw
              case rel => exact ⟨1, by omega, by go_num, HS3.out, below_drewN hb _⟩
              case measure => simp [intOf]; omega
            · obtain ⟨j, rfl⟩ : ∃ j, i = j + 1 := ⟨i - 1, by omega⟩
              have hj0 : decide ((0 : Int) < ((j + 1 : Nat) : Int)) = true := decide_eq_true (by omega)
              obtain ⟨b', off', z, eA, hzx, -, k1, hz1, hz2⟩ := ints_at (Rep.at_ HG.out hb) (k := j) (by rw [← HN.out]; omega)
              injection eA with eA
              injection eA with eb eo _
              subst eb eo
              have HS3 : Hid (r = if decide (x ≤ z) = true then 11 else gaugeF (gPrev ts (j + 1 + 1)) (ts.drop (j + 1 + 1))) := by
                show r = _
                rw [HS2.out]
                rw [show gPrev ts (j + 1) = some z from by unfold gPrev; rw [if_neg (by omega), Nat.add_sub_cancel]; exact hzx.out]; rfl
              have hj1 : ((j + 1 : Nat) : Int) - 1 = (j : Int) := by omega
              have hw1 : IntKind.i64.wrap (((j + 1 : Nat) : Int) - 1) = (j : Int) := by rw [hj1]; exact IntWalk.i64_in _ (by omega)
              clear HS2
              by_cases hxz : x ≤ z
              · have e1 : r = 11 := by rw [HS3.out, if_pos (by simpa using hxz)]
                have hdx : decide (x ≤ z) = true := decide_eq_true hxz
                subst e1
                clear hxz
                go_wp2
                go_quiet (fail)
                go_wp2
                go_ret
                exact ⟨rfl, below_drewN hb _⟩
              · have HS4 : Hid (r = gaugeF (gPrev ts (j + 1 + 1)) (ts.drop (j + 1 + 1))) := by show r = _; rw [HS3.out, if_neg (by simpa using hxz)]
                have hdx : decide (x ≤ z) = false := decide_eq_false hxz
                clear HS3 hxz
                go_wp2
                go_quiet (fail)
                go_wp2
                go_roundw
                case rel => exact ⟨j + 1 + 1, by omega, by go_num, HS4.out, below_drewN hb _⟩
                case measure => simp [intOf]; omega
        · have hki : ¬ (i : Int) < (ng : Int) := by omega
          have e1 : r = 0 := by
            have : i = ts.length := by have := HN.out; omega
            rw [hr.out, this, gauge_end]
          subst e1
          go_wp2
          go_ret
          exact ⟨rfl, hb⟩
set_option maxRecDepth 100000 in
set_option maxHeartbeats 4000000 in
theorem refGrades_any (A : Option Addr) (n c : Nat) (l : List Gr) (w : World) (hg : grR.slice.R w (Lt w) l [.slice A n c]) :
    Calls Tryd.prog 29 #[.slice A n c] w (Ret (.int .i64 (gradesF l)) w) := by
  obtain ⟨hn, hnm⟩ := slice_ln hg
  obtain ⟨r, hr⟩ : ∃ r, r = gradesF l := ⟨_, rfl⟩
  have HR1 : Hid (r = listF gradeE (·.1) none l) := hr
  rw [← hr]
  have HN := Lib.hid hn
  have HG := Lib.hid hg
  clear hr hn hg
  go_enter Tryd.func29, Tryd.ntmps29
  go_wp2
  go_loopw [3] (fun iv wr => ∃ i : Nat, i ≤ n ∧ iv = .int .i64 i ∧ Hid (r = listF gradeE (·.1) (nPrev (·.1) l i) (l.drop i)) ∧ Below w.heap.size w wr) (fun iv _ => n - (intOf iv).toNat)
  case atStart => exact ⟨0, Nat.zero_le _, rfl, HR1.out, Below.refl _ _⟩
  case round =>
    obtain ⟨i, hi, rfl, hr, hb⟩ := hrel
    by_cases hlt : i < n
    · have hki : (i : Int) < (n : Int) := by omega
      obtain ⟨b, off, nm, dd, y, ts, G, ng, cg, rfl, hx, hK, -, hG, hnml, -, -, -⟩ := gr_all HG.out (k := i) (by rw [← HN.out]; exact hlt)
      have hA := fun w => refName_any (bA nm) w (by rw [bA_size]; exact hnml)
      rw [bA_list] at hA
      have HA := Lib.hid hA
      have HST := Lib.hid (listF_step (E := gradeE) (nm := (·.1)) hx.out)
      rw [gradeE_eq] at HST
      have HD : Hid (listF gradeE (·.1) (nPrev (·.1) l i) (l.drop i) = r) := hr.out.symm
      rw [HST.out] at HD
      have hP : i ≠ 0 → ∃ j nm', i = j + 1 ∧ nPrev (·.1) l i = some nm' ∧ (∀ W, Below w.heap.size w W → W.cell? ⟨b, off + j * 4, none⟩ = some (.string (bA nm'))) := fun h0 => by
        obtain ⟨j, rfl⟩ : ∃ j, i = j + 1 := ⟨i - 1, by omega⟩
        obtain ⟨b', off', nm', _, _, _, _, _, _, eA, hx', hK', -⟩ := gr_all HG.out (k := j) (by rw [← HN.out]; omega)
        injection eA with eA
        injection eA with eb eo _
        subst eb eo
        exact ⟨j, nm', rfl, prev_name hx'.out, fun W hW => (hK'.out W hW).1⟩
      have HP := Lib.hid hP
      obtain ⟨k0, k1, k2, k3⟩ := hK.out _ hb
      clear hA HST hr hP
      go_wp2_with fail
      refine (HA.out _).mono ?_
      rintro e w1 ⟨rfl, hb1⟩
      have hbw := bstep hb hb.size hb1
      clear k0 k1 k2 k3
      obtain ⟨k0, k1, k2, k3⟩ := hK.out _ hbw
      clear hb1 HA
      cases hN : isNameF nm
      · have e1 : r = 6 := by rw [← HD.out, if_pos (by rw [if_pos hN]; decide), if_pos hN]
        subst e1
        go_wp2
        go_ret
        exact ⟨rfl, hbw⟩
      · go_wp2_with fail
        refine (refIn_any _ _ _ _).mono ?_
        rintro e w2 ⟨rfl, rfl⟩
        cases hD : inB dd 1000 20000
        · have e1 : r = 9 := by rw [← HD.out, if_neg (c := isNameF nm = false) (by simp [hN]), if_pos (c := inB dd 1000 20000 = false ∨ inB y 100 1500 = false) (.inl hD), if_pos (by decide)]
          subst e1
          go_wp2
          go_ret
          exact ⟨rfl, hbw⟩
        · go_wp2_with fail
          refine (refIn_any _ _ _ _).mono ?_
          rintro e w2 ⟨rfl, rfl⟩
          cases hY : inB y 100 1500
          · have e1 : r = 9 := by rw [← HD.out, if_neg (c := isNameF nm = false) (by simp [hN]), if_pos (c := inB dd 1000 20000 = false ∨ inB y 100 1500 = false) (.inr hY), if_pos (by decide)]
            subst e1
            go_wp2
            go_ret
            exact ⟨rfl, hbw⟩
          · have HD2 : Hid ((if gaugesE ts ≠ 0 then gaugesE ts else if backB (nPrev (·.1) l i) nm = true then 11 else listF gradeE (·.1) (nPrev (·.1) l (i + 1)) (l.drop (i + 1))) = r) := by
              have := HD.out
              rw [if_neg (c := isNameF nm = false) (by simp [hN]), if_neg (c := inB dd 1000 20000 = false ∨ inB y 100 1500 = false) (by simp [hD, hY])] at this
              exact this
            clear HD hN hD hY
            have CG := Lib.hid (refGauges_any ts G ng cg w1 (hG.out _ hbw))
            obtain ⟨ge, hge⟩ : ∃ e, e = gaugesE ts := ⟨_, rfl⟩
            rw [← hge] at CG HD2
            clear hge
            go_wp2_with fail
            refine CG.out.mono ?_
            rintro e w3 ⟨rfl, hb3⟩
            have hbz := bstep hbw hbw.size hb3
            clear k0 k1 k2 k3 hb3 CG hbw
            obtain ⟨k0, k1, k2, k3⟩ := hK.out _ hbz
            by_cases hge : ge = 0
            · have hbe : (ge != 0) = false := by rw [hge]; rfl
              have HD3 : Hid ((if backB (nPrev (·.1) l i) nm = true then 11 else listF gradeE (·.1) (nPrev (·.1) l (i + 1)) (l.drop (i + 1))) = r) := by
                have := HD2.out
                rw [if_neg (by simp [hge])] at this
                exact this
              clear HD2 hge
              by_cases hi0 : i = 0
              · subst hi0
                have HS3 : Hid (r = listF gradeE (·.1) (nPrev (·.1) l 1) (l.drop 1)) := by
                  have := HD3.out
                  rw [if_neg (by simp [nPrev, backB])] at this
                  exact this.symm
                clear HD3 HP
                go_wp2
                go_quiet (fail)
                go_wp2
                go_roundw
                case rel => exact ⟨1, by omega, by go_num, HS3.out, below_drewN hbz _⟩
                case measure => simp [intOf]; omega
              · obtain ⟨j, nm', rfl, hp, hk'⟩ := HP.out hi0
                have p0 := hk' _ hbz
                have hj0 : decide ((0 : Int) < ((j + 1 : Nat) : Int)) = true := decide_eq_true (by omega)
                have hj1 : ((j + 1 : Nat) : Int) - 1 = (j : Int) := by omega
                have hw1 : IntKind.i64.wrap (((j + 1 : Nat) : Int) - 1) = (j : Int) := by rw [hj1]; exact IntWalk.i64_in _ (by omega)
                rw [hp] at HD3
                clear HP hp hk' hi0
                go_wp2
                go_quiet (fail)
                rw [back_leq]
                cases hbb : backB (some nm') nm
                · have HS3 : Hid (r = listF gradeE (·.1) (nPrev (·.1) l (j + 1 + 1)) (l.drop (j + 1 + 1))) := by
                    have := HD3.out
                    rw [if_neg (by simp [hbb])] at this
                    exact this.symm
                  clear HD3
                  go_wp2
                  go_roundw
                  case rel => exact ⟨j + 1 + 1, by omega, by go_num, HS3.out, below_drewN hbz _⟩
                  case measure => simp [intOf]; omega
                · have e1 : r = 11 := by
                    have := HD3.out
                    rw [if_pos hbb] at this
                    exact this.symm
                  subst e1
                  go_wp2
                  go_ret
                  exact ⟨rfl, below_drewN hbz _⟩
            · have hbe : (ge != 0) = true := bne_iff_ne.2 hge
              have e1 : r = ge := by rw [← HD2.out, if_pos hge]
              subst e1
              clear hge
              go_wp2
              go_ret
              exact ⟨rfl, hbz⟩
    · have hki : ¬ (i : Int) < (n : Int) := by omega
      have e1 : r = 0 := by
        have : i = l.length := by have := HN.out; omega
        rw [hr.out, this, listF_end]
      subst e1
      go_wp2
      go_ret
      exact ⟨rfl, hb⟩
end Go.Proofs.YtacbmmnipedpdaaDoor

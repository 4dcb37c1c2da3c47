/- Chapter 15: Check of material, by walking its text. -/
import Derived.Test.YtacbmmnipedpdaaDoorMatW2
import Derived.Test.YtacbmmnipedpdaaDoorMatLaws
namespace Go.Proofs.YtacbmmnipedpdaaDoor
open Go Go.RowKit

theorem mat_bl : ∀ (x y : List UInt8), Op.bytesLess x y = decide (x < y)
  | [], [] => by simp [Op.bytesLess]
  | _ :: _, [] => by simp [Op.bytesLess]
  | [], _ :: _ => by simp [Op.bytesLess]
  | a :: x, b :: y => by
    rw [Op.bytesLess, mat_bl x y, Bool.eq_iff_iff]
    simp [List.cons_lt_cons_iff]
theorem u8l_tri : ∀ a b : List UInt8, a < b ∨ a = b ∨ b < a
  | [], [] => .inr (.inl rfl)
  | [], _ :: _ => .inl (by simp)
  | _ :: _, [] => .inr (.inr (by simp))
  | a :: x, b :: y => by
    rcases Nat.lt_trichotomy a.toNat b.toNat with h | h | h
    · exact .inl (List.cons_lt_cons_iff.2 (.inl (UInt8.lt_iff_toNat_lt.2 h)))
    · obtain rfl := UInt8.toNat_inj.1 h
      rcases u8l_tri x y with h | rfl | h
      · exact .inl (List.cons_lt_cons_iff.2 (.inr ⟨rfl, h⟩))
      · exact .inr (.inl rfl)
      · exact .inr (.inr (List.cons_lt_cons_iff.2 (.inr ⟨rfl, h⟩)))
    · exact .inr (.inr (List.cons_lt_cons_iff.2 (.inl (UInt8.lt_iff_toNat_lt.2 h))))
theorem back_leq (p n : List UInt8) : (Op.bytesLess n p || n == p) = backB (some p) n := by
  rw [mat_bl]
  unfold backB
  rw [Bool.eq_iff_iff]
  simp only [Bool.or_eq_true, decide_eq_true_eq, beq_iff_eq, Bool.not_eq_true', decide_eq_false_iff_not]
  constructor
  · rintro (h | rfl)
    · exact fun h2 => u8l_irrefl _ (u8l_trans h h2)
    · exact u8l_irrefl _
  · intro h
    rcases u8l_tri n p with h1 | h1 | h1
    · exact .inl h1
    · exact .inr h1
    · exact absurd h1 h
theorem rep_in {α : Type} {E : Rep α} {a w w' : World} {x : α} {cs : List Value} (h : E.R w (Lt a) x cs) (ha : a.heap.size ≤ w.heap.size) (hb : Below w.heap.size w w') : E.R w' (Lt w') x cs :=
  E.mono (fun b (hl : b < a.heap.size) => by have := hb.size; show b < w'.heap.size; omega) (E.keep (fun b (hl : b < a.heap.size) => hb.block b (by omega)) h)
def nPrev {α : Type} (nm : α → List UInt8) (l : List α) (i : Nat) : Option (List UInt8) := if i = 0 then none else (l[i - 1]?).map nm
theorem listF_step {α : Type} {E : α → Int} {nm : α → List UInt8} {l : List α} {i : Nat} {g : α} (h : l[i]? = some g) :
    listF E nm (nPrev nm l i) (l.drop i) = if E g ≠ 0 then E g else if backB (nPrev nm l i) (nm g) = true then 11 else listF E nm (nPrev nm l (i + 1)) (l.drop (i + 1)) := by
  have hd : l.drop i = g :: l.drop (i + 1) := by
    have hi := lt_of_get h
    rw [List.drop_eq_getElem_cons hi]
    rw [List.getElem?_eq_getElem hi] at h
    injection h with h
    rw [h]
  rw [hd, listF]
  have : nPrev nm l (i + 1) = some (nm g) := by unfold nPrev; rw [if_neg (by omega), Nat.add_sub_cancel, h]; rfl
  rw [this]
theorem listF_end {α : Type} {E : α → Int} {nm : α → List UInt8} {l : List α} : listF E nm (nPrev nm l l.length) (l.drop l.length) = 0 := by rw [List.drop_length]; rfl
theorem gr_info : (Tryd.prog.info? 32).map (fun i => (i.zero, i.size, i.bytes)) = some (some (.agg #[.string ⟨#[]⟩, .int .i64 0, .int .i64 0, .slice none 0 0]), 4, 56) := by kernel_rfl
set_option maxRecDepth 100000 in
set_option maxHeartbeats 4000000 in
theorem matCheck_any (A B : Option Addr) (n c k d : Nat) (m : Mat) (w : World) (hg : grR.slice.R w (Lt w) m.1 [.slice A n c]) (hs : scR.slice.R w (Lt w) m.2 [.slice B k d]) :
    Calls Tryd.prog 12 #[.agg #[.slice A n c, .slice B k d]] w (Ret (.int .i64 (checkM m)) w) := by
  obtain ⟨hn, hnm⟩ := slice_ln hg
  obtain ⟨hk, hkm⟩ := slice_ln hs
  obtain ⟨r, hr⟩ : ∃ r, r = checkM m := ⟨_, rfl⟩
  have HR : Hid (r = if 16 < m.1.length ∨ 32 < m.2.length then 4 else if gradesF m.1 ≠ 0 then gradesF m.1 else sectsF m.2) := hr
  rw [← hr]
  clear hr
  have hbx := (Below.refl w.heap.size w).alloc (Nat.le_refl _) (.cells #[.slice A n c, .slice B k d] 25)
  have bx := Blk.new w 25 #[.slice A n c, .slice B k d]
  have hBl : w.heap.size < (w.alloc (.cells #[.slice A n c, .slice B k d] 25)).heap.size := by simp
  have c0 : (w.alloc (.cells #[.slice A n c, .slice B k d] 25)).cell? ⟨w.heap.size, 0, none⟩ = some (.slice A n c) := bx.cell 0
  have c1 : (w.alloc (.cells #[.slice A n c, .slice B k d] 25)).cell? ⟨w.heap.size, 1, none⟩ = some (.slice B k d) := bx.cell 1
  have HN := Lib.hid hn
  have HK := Lib.hid hk
  have HBX := Lib.hid bx
  have HG := Lib.hid hg
  have HS := Lib.hid hs
  clear hn hk bx hg hs
  by_cases hlong : 16 < n ∨ 32 < k
  · have e1 : r = 4 := by rw [HR.out, if_pos (by have := HN.out; have := HK.out; omega)]
    subst e1
    rcases hlong with h1 | h1
    · have h2 : decide ((16 : Int) < (n : Int)) = true := decide_eq_true (by omega)
      clear h1
      go_enter Tryd.func12, Tryd.ntmps12
      go_wp2
      go_ret
      exact ⟨rfl, hbx⟩
    · have h2 : decide ((32 : Int) < (k : Int)) = true := decide_eq_true (by omega)
      clear h1
      go_enter Tryd.func12, Tryd.ntmps12
      go_wp2
      all_goals
        go_ret
        exact ⟨rfl, hbx⟩
  · have h1 : decide ((16 : Int) < (n : Int)) = false := decide_eq_false (by omega)
    have h2 : decide ((32 : Int) < (k : Int)) = false := decide_eq_false (by omega)
    have hn16 : n ≤ 16 := by omega
    have hk32 : k ≤ 32 := by omega
    have HR1 : Hid (r = if gradesF m.1 ≠ 0 then gradesF m.1 else sectsF m.2) := by show r = _; rw [HR.out, if_neg (by have := HN.out; have := HK.out; omega)]
    obtain ⟨S, hS⟩ : ∃ S, S = sectsF m.2 := ⟨_, rfl⟩
    rw [← hS] at HR1
    have HSS := Lib.hid hS
    clear HR hlong hS
    go_enter Tryd.func12, Tryd.ntmps12
    go_wp2
    go_loopw [22] (fun iv wr => ∃ i : Nat, i ≤ n ∧ iv = .int .i64 i ∧ Hid (r = if listF gradeE (·.1) (nPrev (·.1) m.1 i) (m.1.drop i) ≠ 0 then listF gradeE (·.1) (nPrev (·.1) m.1 i) (m.1.drop i) else S) ∧ Blk wr w.heap.size 25 #[.slice A n c, .slice B k d] ∧ w.heap.size < wr.heap.size ∧ Below w.heap.size w wr) (fun iv _ => n - (intOf iv).toNat)
    case atStart => exact ⟨0, Nat.zero_le _, rfl, HR1.out, HBX.out, hBl, hbx⟩
    case round =>
      obtain ⟨i, hi, rfl, hr, hbk, hwl, hb⟩ := hrel
      have c0 : wr.cell? ⟨w.heap.size, 0, none⟩ = some (.slice A n c) := hbk.cell 0
      have c1 : wr.cell? ⟨w.heap.size, 1, none⟩ = some (.slice B k d) := hbk.cell 1
      by_cases hlt : i < n
      · have hki : (i : Int) < (n : Int) := by omega
        obtain ⟨b, off, nm, dd, y, ts, G, ng, cg, rfl, hx, hbD, k0, k1, k2, k3, hng, hG, hnml, -, -, -⟩ := gr_at (Rep.at_ HG.out hb) (by rw [← HN.out]; exact hlt)
        have hba := (Below.refl wr.heap.size wr).alloc (Nat.le_refl _) (.cells #[.string (bA nm), .int .i64 dd, .int .i64 y, .slice G ng cg] 32)
        have bn := Blk.new wr 32 #[.string (bA nm), .int .i64 dd, .int .i64 y, .slice G ng cg]
        have hbl : wr.heap.size < (wr.alloc (.cells #[.string (bA nm), .int .i64 dd, .int .i64 y, .slice G ng cg] 32)).heap.size := by simp
        have hG2 := rep_in hG hb.size hba
        have CG := Lib.hid (matGrade_any nm dd y ts G ng cg _ hG2 hnml)
        have HBN := Lib.hid bn
        have HBK := Lib.hid hbk
        have HST := Lib.hid (listF_step (E := gradeE) (nm := (·.1)) hx.out)
        obtain ⟨ge, hge⟩ : ∃ e, e = gradeE (nm, dd, y, ts) := ⟨_, rfl⟩
        rw [← hge] at CG HST
        have hwr := hb.size
        clear bn hbk hG hG2 hge
        go_wp2_with fail
        refine CG.out.mono ?_
        rintro e w1 ⟨rfl, hb1⟩
        have hb2 := bstep hba hba.size hb1
        have hbw := bstep hb hb.size hb2
        have bn := HBN.out.below hb1 hbl
        have bk := HBK.out.below hb2 hwl
        have n0 : w1.cell? ⟨wr.heap.size, 0, none⟩ = some (.string (bA nm)) := bn.cell 0
        have d0 : w1.cell? ⟨w.heap.size, 0, none⟩ = some (.slice (some ⟨b, off, none⟩) n c) := bk.cell 0
        have d1 : w1.cell? ⟨w.heap.size, 1, none⟩ = some (.slice B k d) := bk.cell 1
        have HBK := Lib.hid bk
        have hwl1 : w.heap.size < w1.heap.size := Nat.lt_of_lt_of_le hwl hb2.size
        clear bn bk k0 k1 k2 k3 hba hbl CG HBN c0 c1
        by_cases hge : ge = 0
        · have hbe : (ge != 0) = false := by rw [hge]; rfl
          by_cases hi0 : i = 0
          · subst hi0
            have HS3 : Hid (r = if listF gradeE (·.1) (nPrev (·.1) m.1 1) (m.1.drop 1) ≠ 0 then listF gradeE (·.1) (nPrev (·.1) m.1 1) (m.1.drop 1) else S) := by
              show r = _
              have hst := HST.out
              rw [if_neg (by simp [hge]), if_neg (by simp [nPrev, backB])] at hst
              rw [hr.out, hst]
            clear HST hge
            go_wp2
            go_quiet (fail)
            go_wp2
            go_roundw
            case rel => exact ⟨1, by omega, by go_num, HS3.out, HBK.out.drewN _, hwl1, below_drewN hbw _⟩
            case measure => simp [intOf]; omega
          · obtain ⟨j, rfl⟩ : ∃ j, i = j + 1 := ⟨i - 1, by omega⟩
            have hj0 : decide ((0 : Int) < ((j + 1 : Nat) : Int)) = true := decide_eq_true (by omega)
            obtain ⟨b', off', nm', dd', y', ts', G', ng', cg', eA, hx', -, k0, -, -, -, -, -, -, -, -, -⟩ := gr_at (Rep.at_ HG.out hbw) (k := j) (by rw [← HN.out]; omega)
            injection eA with eA
            injection eA with eb eo _
            subst eb eo
            have hj1 : ((j + 1 : Nat) : Int) - 1 = (j : Int) := by omega
            have hw1 : IntKind.i64.wrap (((j + 1 : Nat) : Int) - 1) = (j : Int) := by rw [hj1]; exact IntWalk.i64_in _ (by omega)
            have hst := HST.out
            rw [if_neg (by simp [hge]), show nPrev (fun x : Gr => x.1) m.1 (j + 1) = some nm' from by unfold nPrev; rw [if_neg (by omega), Nat.add_sub_cancel, hx'.out]; rfl] at hst
            have HS2 := Lib.hid hst
            clear HST hst hge
            go_wp2
            go_quiet (fail)
            rw [back_leq]
            cases hbb : backB (some nm') nm
            · have HS3 : Hid (r = if listF gradeE (·.1) (nPrev (·.1) m.1 (j + 1 + 1)) (m.1.drop (j + 1 + 1)) ≠ 0 then listF gradeE (·.1) (nPrev (·.1) m.1 (j + 1 + 1)) (m.1.drop (j + 1 + 1)) else S) := by
                show r = _
                have hst := HS2.out
                rw [if_neg (by simp [hbb])] at hst
                have hr2 := hr.out
                rw [show nPrev (fun x : Gr => x.1) m.1 (j + 1) = some nm' from by unfold nPrev; rw [if_neg (by omega), Nat.add_sub_cancel, hx'.out]; rfl, hst] at hr2
                exact hr2
              clear HS2
              go_wp2
              go_roundw
              case rel => exact ⟨j + 1 + 1, by omega, by go_num, HS3.out, HBK.out.drewN _, hwl1, below_drewN hbw _⟩
              case measure => simp [intOf]; omega
            · have e1 : r = 11 := by
                have hst := HS2.out
                rw [if_pos hbb] at hst
                have hr2 := hr.out
                rw [show nPrev (fun x : Gr => x.1) m.1 (j + 1) = some nm' from by unfold nPrev; rw [if_neg (by omega), Nat.add_sub_cancel, hx'.out]; rfl, hst] at hr2
                simpa using hr2
              subst e1
              go_wp2
              go_ret
              exact ⟨rfl, below_drewN hbw _⟩
        · have hbe : (ge != 0) = true := bne_iff_ne.2 hge
          have e1 : r = ge := by rw [hr.out, HST.out, if_pos hge, if_pos hge]
          subst e1
          clear hge
          go_wp2
          go_ret
          exact ⟨rfl, hbw⟩
      · have hki : ¬ (i : Int) < (n : Int) := by omega
        have HR2 : Hid (r = sectsF m.2) := by
          have : i = m.1.length := by have := HN.out; omega
          have hr2 := hr.out
          rw [this, listF_end] at hr2
          show r = _
          rw [hr2, ← HSS.out]; rfl
        clear hr HR1 HSS
        go_wp2
        go_loopw [50] (fun iv wr => ∃ i : Nat, i ≤ k ∧ iv = .int .i64 i ∧ Hid (r = listF sectE (·.1) (nPrev (·.1) m.2 i) (m.2.drop i)) ∧ Blk wr w.heap.size 25 #[.slice A n c, .slice B k d] ∧ w.heap.size < wr.heap.size ∧ Below w.heap.size w wr) (fun iv _ => k - (intOf iv).toNat)
        case atStart => exact ⟨0, Nat.zero_le _, rfl, HR2.out, hbk, hwl, hb⟩
        case round =>
          clear hb hwl hbk c0 c1
          obtain ⟨i, hi, rfl, hr, hbk, hwl, hb⟩ := hrel
          have c0 : wr.cell? ⟨w.heap.size, 0, none⟩ = some (.slice A n c) := hbk.cell 0
          have c1 : wr.cell? ⟨w.heap.size, 1, none⟩ = some (.slice B k d) := hbk.cell 1
          by_cases hlt : i < k
          · have hki : (i : Int) < (k : Int) := by omega
            obtain ⟨b, off, nm, dd, y, z, rfl, hx, hbD, k0, k1, k2, k3, hnml, -, -, -⟩ := sc_at (Rep.at_ HS.out hb) (by rw [← HK.out]; exact hlt)
            have hba := (Below.refl wr.heap.size wr).alloc (Nat.le_refl _) (.cells #[.string (bA nm), .int .i64 dd, .int .i64 y, .int .i64 z] 36)
            have bn := Blk.new wr 36 #[.string (bA nm), .int .i64 dd, .int .i64 y, .int .i64 z]
            have hbl : wr.heap.size < (wr.alloc (.cells #[.string (bA nm), .int .i64 dd, .int .i64 y, .int .i64 z] 36)).heap.size := by simp
            have CG := Lib.hid (matSection_any nm dd y z (wr.alloc (.cells #[.string (bA nm), .int .i64 dd, .int .i64 y, .int .i64 z] 36)) hnml)
            have HBN := Lib.hid bn
            have HBK := Lib.hid hbk
            have HST := Lib.hid (listF_step (E := sectE) (nm := (·.1)) hx.out)
            obtain ⟨ge, hge⟩ : ∃ e, e = sectE (nm, dd, y, z) := ⟨_, rfl⟩
            rw [← hge] at CG HST
            have hwr := hb.size
            clear bn hbk hge
            go_wp2_with fail
            refine CG.out.mono ?_
            rintro e w1 ⟨rfl, hb1⟩
            have hb2 := bstep hba hba.size hb1
            have hbw := bstep hb hb.size hb2
            have bn := HBN.out.below hb1 hbl
            have bk := HBK.out.below hb2 hwl
            have n0 : w1.cell? ⟨wr.heap.size, 0, none⟩ = some (.string (bA nm)) := bn.cell 0
            have d0 : w1.cell? ⟨w.heap.size, 0, none⟩ = some (.slice A n c) := bk.cell 0
            have d1 : w1.cell? ⟨w.heap.size, 1, none⟩ = some (.slice (some ⟨b, off, none⟩) k d) := bk.cell 1
            have HBK := Lib.hid bk
            have hwl1 : w.heap.size < w1.heap.size := Nat.lt_of_lt_of_le hwl hb2.size
            clear bn bk k0 k1 k2 k3 hba hbl CG HBN c0 c1
            by_cases hge : ge = 0
            · have hbe : (ge != 0) = false := by rw [hge]; rfl
              by_cases hi0 : i = 0
              · subst hi0
                have HS3 : Hid (r = listF sectE (·.1) (nPrev (·.1) m.2 1) (m.2.drop 1)) := by
                  show r = _
                  have hst := HST.out
                  rw [if_neg (by simp [hge]), if_neg (by simp [nPrev, backB])] at hst
                  rw [hr.out, hst]
                clear HST hge
                go_wp2
                go_quiet (fail)
                go_wp2
                go_roundw
                case rel => exact ⟨1, by omega, by go_num, HS3.out, HBK.out.drewN _, hwl1, below_drewN hbw _⟩
                case measure => simp [intOf]; omega
              · obtain ⟨j, rfl⟩ : ∃ j, i = j + 1 := ⟨i - 1, by omega⟩
                have hj0 : decide ((0 : Int) < ((j + 1 : Nat) : Int)) = true := decide_eq_true (by omega)
                obtain ⟨b', off', nm', dd', y', z', eA, hx', -, k0, -, -, -, -, -, -, -⟩ := sc_at (Rep.at_ HS.out hbw) (k := j) (by rw [← HK.out]; omega)
                injection eA with eA
                injection eA with eb eo _
                subst eb eo
                have hj1 : ((j + 1 : Nat) : Int) - 1 = (j : Int) := by omega
                have hw1 : IntKind.i64.wrap (((j + 1 : Nat) : Int) - 1) = (j : Int) := by rw [hj1]; exact IntWalk.i64_in _ (by omega)
                have HP : Hid (nPrev (fun x : Sc => x.1) m.2 (j + 1) = some nm') := by show nPrev (fun x : Sc => x.1) m.2 (j + 1) = some nm'; unfold nPrev; rw [if_neg (by omega), Nat.add_sub_cancel, hx'.out]; rfl
                have hst := HST.out
                rw [if_neg (by simp [hge]), HP.out] at hst
                have HS2 := Lib.hid hst
                clear HST hst hge
                go_wp2
                go_quiet (fail)
                rw [back_leq]
                cases hbb : backB (some nm') nm
                · have HS3 : Hid (r = listF sectE (·.1) (nPrev (·.1) m.2 (j + 1 + 1)) (m.2.drop (j + 1 + 1))) := by
                    show r = _
                    have hst := HS2.out
                    rw [if_neg (by simp [hbb])] at hst
                    rw [hr.out, HP.out, hst]
                  clear HS2
                  go_wp2
                  go_roundw
                  case rel => exact ⟨j + 1 + 1, by omega, by go_num, HS3.out, HBK.out.drewN _, hwl1, below_drewN hbw _⟩
                  case measure => simp [intOf]; omega
                · have e1 : r = 11 := by
                    have hst := HS2.out
                    rw [if_pos hbb] at hst
                    rw [hr.out, HP.out, hst]
                  subst e1
                  go_wp2
                  go_ret
                  exact ⟨rfl, below_drewN hbw _⟩
            · have hbe : (ge != 0) = true := bne_iff_ne.2 hge
              have e1 : r = ge := by rw [hr.out, HST.out, if_pos hge]
              subst e1
              clear hge
              go_wp2
              go_ret
              exact ⟨rfl, hbw⟩
          · have hki : ¬ (i : Int) < (k : Int) := by omega
            have e1 : r = 0 := by
              have : i = m.2.length := by have := HK.out; omega
              rw [hr.out, this, listF_end]
            subst e1
            go_wp2
            go_ret
            exact ⟨rfl, hb⟩
end Go.Proofs.YtacbmmnipedpdaaDoor

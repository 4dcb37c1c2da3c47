/- Flow shops: the reference's check of a shop, and its Best where the shop is wrong, by walking their text. -/
import Derived.Test.YtcnkocnajamclaaFlW1
namespace Go.Proofs.Ytcnkocnajamclaa
open Go Go.RowKit
set_option linter.unusedSimpArgs false

theorem out_any {r : List Int} {x : Int} {q : Nat} (hx : r[q]? = some x) (h : outB x = true) : r.any outB = true := List.any_eq_true.2 ⟨x, List.mem_of_getElem? hx, h⟩
set_option maxRecDepth 100000 in
set_option maxHeartbeats 2000000 in
theorem rfShop_any (A : Option Addr) (n c : Nat) (p : List (List Int)) (w : World) (hp : rowsR.R w (Lt w) p [.slice A n c]) :
    Calls Try.prog 57 #[.slice A n c] w fun e w' => e = .returned (.int .i64 (shopF p)) ∧ Qt w w' := by
  obtain ⟨A', c', e, hm, -⟩ := slice_inv hp
  injection e with e1 e2 e3
  subst e1 e2 e3
  obtain ⟨r, hr⟩ : ∃ r, r = shopF p := ⟨_, rfl⟩
  have HR : Hid (r = if 32 < p.length ∨ p.any bigB = true then 4 else if p.any (shapeB p) = true then 17 else if p.any (fun r => r.any outB) = true then 9 else 0) := hr
  rw [← hr]
  clear hr
  by_cases h32 : 32 < p.length
  · have h32' : (32 : Int) < (p.length : Int) := by omega
    have : r = 4 := by rw [HR.out, if_pos (.inl h32)]
    subst this
    clear HR hp
    go_enter Try.func57, Try.ntmps57
    go_wp2
    go_ret
    exact ⟨rfl, Qt.refl _⟩
  have h32' : ¬ (32 : Int) < (p.length : Int) := by omega
  go_enter Try.func57, Try.ntmps57
  go_wp2
  go_loopw [3] (fun i wr => ∃ k : Nat, k ≤ p.length ∧ i = .int .i64 k ∧ Hid ((p.take k).any bigB = false) ∧ wr = w) (fun i _ => p.length - (intOf i).toNat)
  case atStart => exact ⟨0, Nat.zero_le _, rfl, rfl, rfl⟩
  case round =>
    obtain ⟨k, hk, rfl, hno, rfl⟩ := hrel
    by_cases hlt : k < p.length
    · have hlt' : (k : Int) < (p.length : Int) := by omega
      obtain ⟨b, off, row, R, cr, rfl, hx, -, c0, -, hrl⟩ := rows_at hp hlt
      by_cases h8 : 8 < row.length
      · have h8' : (8 : Int) < (row.length : Int) := by omega
        have HA := Lib.hid (flAny_hit (p := bigB) hx.out (by unfold bigB; exact decide_eq_true h8))
        have : r = 4 := by rw [HR.out, if_pos (.inr HA.out)]
        subst this
        clear HR hp h8
        go_wp2
        go_ret
        exact ⟨rfl, Qt.refl _⟩
      · have h8' : ¬ (8 : Int) < (row.length : Int) := by omega
        have HA := Lib.hid (flAny_succ (p := bigB) hno.out hx.out (by unfold bigB; exact decide_eq_false h8))
        clear h8
        go_wp2
        go_roundw
        case rel => exact ⟨k + 1, by omega, by go_num, HA.out, trivial⟩
        case measure => simp [intOf]; omega
    · have hlt' : ¬ (k : Int) < (p.length : Int) := by omega
      have h3 := hno.out
      rw [List.take_of_length_le (by omega)] at h3
      have HR2 : Hid (r = if p.any (shapeB p) = true then 17 else if p.any (fun r => r.any outB) = true then 9 else 0) := by show _ = _; rw [HR.out, if_neg (by rw [not_or]; exact ⟨h32, by rw [h3]; decide⟩)]
      clear HR h3 hno h32 hlt
      go_wp2
      go_loopw [4] (fun i wx => ∃ k : Nat, k ≤ p.length ∧ i = .int .i64 k ∧ Hid ((p.take k).any (shapeB p) = false) ∧ Hid (Qt wr wx)) (fun i _ => p.length - (intOf i).toNat)
      case atStart => exact ⟨0, Nat.zero_le _, rfl, rfl, Qt.refl _⟩
      case round =>
        clear hlt'
        obtain ⟨k2, hk2, rfl, hno, hq⟩ := hrel
        have hp2 := Lib.hid (hq.out.rep hp)
        by_cases hlt : k2 < p.length
        · have hlt' : (k2 : Int) < (p.length : Int) := by omega
          obtain ⟨b, off, row, R, cr, rfl, hx, -, c0, -, hrl⟩ := rows_at hp2.out hlt
          obtain ⟨b0, off0, row0, R0, cr0, e0, hx0, -, c00, -, hrl0⟩ := rows_at hp2.out (k := 0) (by omega)
          injection e0 with e0
          injection e0 with e01 e02 _
          subst e01 e02
          have hns := nstat_of hx0.out
          rw [Nat.add_zero] at c00
          by_cases hz : row.length = 0
          · have HS : Hid (shapeB p row = true) := by show _ = _; unfold shapeB; simp [hz]
            have HA := Lib.hid (flAny_hit hx.out HS.out)
            have : r = 17 := by rw [HR2.out, if_pos HA.out]
            subst this
            have z0 : ((row.length : Int) == 0) = true := ieq_t (by omega)
            clear HR2 hz hns
            go_wp2
            go_region
            go_wp2
            go_ret
            exact ⟨rfl, hq.out.drewN _⟩
          · have z0 : ((row.length : Int) == 0) = false := ieq_f (by omega)
            by_cases hne : row.length = row0.length
            · have HS : Hid (shapeB p row = false) := by show _ = _; unfold shapeB; rw [hns, decide_eq_false hz, decide_eq_false (fun h => h hne)]; rfl
              have HA := Lib.hid (flAny_succ hno.out hx.out HS.out)
              have z1 : ((row.length : Int) != (row0.length : Int)) = false := ine_f (by omega)
              clear hz hne hns
              go_wp2
              go_region
              go_wp2
              go_roundw
              case rel => exact ⟨k2 + 1, by omega, by go_num, HA.out, hq.out.drewN _⟩
              case measure => simp [intOf]; omega
            · have HS : Hid (shapeB p row = true) := by show _ = _; unfold shapeB; rw [hns]; simp [hne]
              have HA := Lib.hid (flAny_hit hx.out HS.out)
              have : r = 17 := by rw [HR2.out, if_pos HA.out]
              subst this
              have z1 : ((row.length : Int) != (row0.length : Int)) = true := ine_t (by omega)
              clear HR2 hz hne hns
              go_wp2
              go_region
              go_wp2
              go_ret
              exact ⟨rfl, hq.out.drewN _⟩
        · have hlt' : ¬ (k2 : Int) < (p.length : Int) := by omega
          have h3 := hno.out
          rw [List.take_of_length_le (by omega)] at h3
          have HR3 : Hid (r = if p.any (fun r => r.any outB) = true then 9 else 0) := by show _ = _; rw [HR2.out, if_neg (by rw [h3]; decide)]
          clear HR2 h3 hno
          have HQ3 := Lib.hid hq.out
          have hp3 := hp2.out
          clear hq hp2 hp
          go_wp2
          go_loopw [5] (fun i wy => ∃ k : Nat, k ≤ p.length ∧ i = .int .i64 k ∧ Hid ((p.take k).any (fun r => r.any outB) = false) ∧ wy = wr) (fun i _ => p.length - (intOf i).toNat)
          case atStart => exact ⟨0, Nat.zero_le _, rfl, rfl, rfl⟩
          case round =>
            clear hlt'
            obtain ⟨k3, hk3, rfl, hno, rfl⟩ := hrel
            by_cases hlt : k3 < p.length
            · have hlt' : (k3 : Int) < (p.length : Int) := by omega
              obtain ⟨b, off, row, R, cr, rfl, hx, -, c0, hrow, hrl⟩ := rows_at hp3 hlt
              go_wp2
              go_loopw [6] (fun i wz => ∃ q : Nat, q ≤ row.length ∧ i = .int .i64 q ∧ Hid ((row.take q).any outB = false) ∧ wz = wr) (fun i _ => row.length - (intOf i).toNat)
              case atStart => exact ⟨0, Nat.zero_le _, rfl, rfl, rfl⟩
              case round =>
                obtain ⟨q, hq, rfl, hnq, rfl⟩ := hrel
                by_cases hqt : q < row.length
                · have hqt' : (q : Int) < (row.length : Int) := by omega
                  obtain ⟨b2, off2, y, rfl, hy, -, c2, hy0, hy1⟩ := ints_at hrow hqt
                  by_cases hb : outB y = true
                  · have HA := Lib.hid (flAny_hit (p := fun r : List Int => r.any outB) hx.out (out_any hy.out hb))
                    have : r = 9 := by rw [HR3.out, if_pos HA.out]
                    subst this
                    clear HR3
                    by_cases hy9 : y < 0
                    · clear hb
                      go_wp2
                      go_ret
                      exact ⟨rfl, HQ3.out⟩
                    · have hy8 : 100000 < y := by unfold outB at hb; rw [decide_eq_false hy9] at hb; simpa using hb
                      clear hb
                      go_wp2
                      go_ret
                      exact ⟨rfl, HQ3.out⟩
                  · have hb' : outB y = false := by simpa using hb
                    have HA := Lib.hid (flAny_succ (p := outB) hnq.out hy.out hb')
                    have hy9 : ¬ y < 0 := by intro h; unfold outB at hb; simp [h] at hb
                    have hy8 : ¬ 100000 < y := by intro h; unfold outB at hb; simp [h] at hb
                    clear hb hb'
                    go_wp2
                    go_roundw
                    case rel => exact ⟨q + 1, by omega, by go_num, HA.out, trivial⟩
                    case measure => simp [intOf]; omega
                · have hqt' : ¬ (q : Int) < (row.length : Int) := by omega
                  have h3 := hnq.out
                  rw [List.take_of_length_le (by omega)] at h3
                  have HA := Lib.hid (flAny_succ (p := fun r : List Int => r.any outB) hno.out hx.out h3)
                  clear h3
                  go_wp2
                  go_roundw
                  case rel => exact ⟨k3 + 1, by omega, by go_num, HA.out, trivial⟩
                  case measure => simp [intOf]; omega
            · have hlt' : ¬ (k3 : Int) < (p.length : Int) := by omega
              have h3 := hno.out
              rw [List.take_of_length_le (by omega)] at h3
              have : r = 0 := by rw [HR3.out, if_neg (by rw [h3]; decide)]
              subst this
              go_wp2
              go_ret
              exact ⟨rfl, HQ3.out⟩
/-- Best of the reference at a shop that is wrong. -/
theorem rfBest_bad (A : Option Addr) (n c : Nat) (p : List (List Int)) (steps : Int) (w : World) (hp : rowsR.R w (Lt w) p [.slice A n c]) (hs : shopF p ≠ 0) :
    Calls Try.prog 24 #[.slice A n c, .int .i64 steps] w fun e w' => e = .returned (.tuple #[.slice none 0 0, .int .i64 0, .int .i64 (shopF p)]) ∧ Qt w w' := by
  have C := rfShop_any A n c p w hp
  obtain ⟨r, hr⟩ : ∃ r, r = shopF p := ⟨_, rfl⟩
  rw [← hr] at C hs ⊢
  have z : (r != 0) = true := ine_t hs
  clear hr hs hp
  go_enter Try.func24, Try.ntmps24
  go_wp2_with fail
  refine C.mono ?_
  rintro e w1 ⟨rfl, hq⟩
  go_wp2
  go_ret3
  exact ⟨rfl, hq⟩
end Go.Proofs.Ytcnkocnajamclaa

/- Flow shops: check of flow, by walking its text. -/
import Derived.Test.YtcnkocnajamclaaFlInts
import Derived.Test.YtcnkocnajamclaaFlBest
namespace Go.Proofs.Ytcnkocnajamclaa
open Go Go.RowKit

def flIdx (b : Bool) (w : World) (e : Ending) (w' : World) : Prop := ∃ n : Int, e = .returned (.int .i64 n) ∧ Hid (decide (0 ≤ n) = b) ∧ w' = w
theorem flAny_succ {α : Type} {l : List α} {p : α → Bool} {k : Nat} {x : α} (h : (l.take k).any p = false) (hx : l[k]? = some x) (hp : p x = false) : (l.take (k + 1)).any p = false := by
  rw [List.take_add_one, hx]; simp [h, hp]
theorem flAny_hit {α : Type} {l : List α} {p : α → Bool} {k : Nat} {x : α} (hx : l[k]? = some x) (hp : p x = true) : l.any p = true := by
  rw [List.any_eq_true]; exact ⟨x, List.mem_of_getElem? hx, hp⟩
def bigB (r : List Int) : Bool := decide (8 < r.length)
def outB (x : Int) : Bool := decide (x < 0) || decide (100000 < x)
theorem bigClos_any (R : Option Addr) (n c : Nat) (r : List Int) (w : World) (hr : Rep.int.slice.R w (Lt w) r [.slice R n c]) :
    Calls Try.prog 89 #[.slice R n c] w fun e w' => e = .returned (.bool (bigB r)) ∧ w' = w := by
  obtain ⟨A, c', e, hm, -⟩ := slice_inv hr
  injection e with e1 e2 e3
  subst e1 e2 e3
  have HB : Hid (bigB r = decide ((8 : Int) < (r.length : Int))) := by
    show _ = _
    unfold bigB
    rw [Bool.eq_iff_iff]; simp only [decide_eq_true_eq]; omega
  rw [HB.out]
  clear hr
  by_cases h8 : (8 : Int) < (r.length : Int)
  · rw [decide_eq_true h8]
    go_enter Try.func89, Try.ntmps89
    go_wp2
    go_ret
    exact ⟨rfl, rfl⟩
  · rw [decide_eq_false h8]
    go_enter Try.func89, Try.ntmps89
    go_wp2
    go_ret
    exact ⟨rfl, rfl⟩
theorem outClos_any (x : Int) (w : World) : Calls Try.prog 91 #[.int .i64 x] w fun e w' => e = .returned (.bool (outB x)) ∧ w' = w := by
  obtain ⟨r, hr⟩ : ∃ r, r = outB x := ⟨_, rfl⟩
  rw [← hr]
  by_cases h1 : x < 0
  · have : r = true := by rw [hr]; unfold outB; simp [h1]
    subst this
    clear hr
    go_enter Try.func91, Try.ntmps91
    go_wp2
    go_ret
    exact ⟨rfl, rfl⟩
  · by_cases h2 : 100000 < x
    · have : r = true := by rw [hr]; unfold outB; simp [h2]
      subst this
      clear hr
      go_enter Try.func91, Try.ntmps91
      go_wp2
      go_ret
      exact ⟨rfl, rfl⟩
    · have : r = false := by rw [hr]; unfold outB; simp [h1, h2]
      subst this
      clear hr
      go_enter Try.func91, Try.ntmps91
      go_wp2
      go_ret
      exact ⟨rfl, rfl⟩
set_option maxRecDepth 100000 in
set_option maxHeartbeats 400000 in
theorem indexBig_any (A : Option Addr) (n c : Nat) (p : List (List Int)) (w : World) (hp : rowsR.R w (Lt w) p [.slice A n c]) :
    Calls Try.prog 109 #[.slice A n c, .func (.func 89) #[] #[]] w (flIdx (p.any bigB) w) := by
  obtain ⟨A', c', e, hm, -⟩ := slice_inv hp
  injection e with e1 e2 e3
  subst e1 e2 e3
  obtain ⟨r, hr⟩ : ∃ r, r = p.any bigB := ⟨_, rfl⟩
  have HR := Lib.hid hr
  rw [← hr]
  clear hr
  go_enter Try.func109, Try.ntmps109
  go_wp2
  go_loopw [8] (fun i wr => ∃ k : Nat, k ≤ p.length ∧ i = .int .i64 k ∧ Hid ((p.take k).any bigB = false) ∧ wr = w) (fun i _ => p.length - (intOf i).toNat)
  case atStart => exact ⟨0, Nat.zero_le _, rfl, rfl, rfl⟩
  case round =>
    obtain ⟨k, hk, rfl, hno, rfl⟩ := hrel
    by_cases hlt : k < p.length
    · have hlt' : (k : Int) < (p.length : Int) := by omega
      obtain ⟨b, off, row, R, cr, rfl, hx, -, c0, hrow, -⟩ := rows_at hp hlt
      have C := Lib.hid (bigClos_any R row.length cr row wr hrow)
      clear hrow
      rcases Bool.eq_false_or_eq_true (bigB row) with hf | hf
      · have HA := Lib.hid (flAny_hit hx.out hf)
        rw [hf] at C
        clear hf
        go_wp2_with fail
        refine C.out.mono ?_
        rintro e w1 ⟨rfl, rfl⟩
        go_wp2
        go_ret
        exact ⟨k, rfl, by show decide _ = _; rw [HR.out, HA.out]; simp, rfl⟩
      · have HA := Lib.hid (flAny_succ hno.out hx.out hf)
        rw [hf] at C
        clear hf
        go_wp2_with fail
        refine C.out.mono ?_
        rintro e w1 ⟨rfl, rfl⟩
        go_wp2
        go_roundw
        case rel => exact ⟨k + 1, by omega, by go_num, HA.out, trivial⟩
        case measure => simp [intOf]; omega
    · have hlt' : ¬ (k : Int) < (p.length : Int) := by omega
      go_wp2
      go_ret
      have h3 := hno.out
      rw [List.take_of_length_le (by omega)] at h3
      exact ⟨-1, rfl, by show decide _ = _; rw [HR.out, h3]; rfl, rfl⟩
theorem containsBig_any (A : Option Addr) (n c : Nat) (p : List (List Int)) (w : World) (hp : rowsR.R w (Lt w) p [.slice A n c]) :
    Calls Try.prog 88 #[.slice A n c, .func (.func 89) #[] #[]] w fun e w' => e = .returned (.bool (p.any bigB)) ∧ w' = w := by
  have C := indexBig_any A n c p w hp
  generalize p.any bigB = r at *
  go_enter Try.func88, Try.ntmps88
  go_wp2_with fail
  refine C.mono ?_
  rintro e w1 ⟨i, rfl, hi, rfl⟩
  go_wp2
  go_ret
  exact ⟨ret_bool hi.out, rfl⟩
set_option maxRecDepth 100000 in
set_option maxHeartbeats 400000 in
theorem indexOut_any (A : Option Addr) (n c : Nat) (p : List Int) (w : World) (hp : Rep.int.slice.R w (Lt w) p [.slice A n c]) :
    Calls Try.prog 110 #[.slice A n c, .func (.func 91) #[] #[]] w (flIdx (p.any outB) w) := by
  obtain ⟨A', c', e, hm, -⟩ := slice_inv hp
  injection e with e1 e2 e3
  subst e1 e2 e3
  obtain ⟨r, hr⟩ : ∃ r, r = p.any outB := ⟨_, rfl⟩
  have HR := Lib.hid hr
  rw [← hr]
  clear hr
  go_enter Try.func110, Try.ntmps110
  go_wp2
  go_loopw [8] (fun i wr => ∃ k : Nat, k ≤ p.length ∧ i = .int .i64 k ∧ Hid ((p.take k).any outB = false) ∧ wr = w) (fun i _ => p.length - (intOf i).toNat)
  case atStart => exact ⟨0, Nat.zero_le _, rfl, rfl, rfl⟩
  case round =>
    obtain ⟨k, hk, rfl, hno, rfl⟩ := hrel
    by_cases hlt : k < p.length
    · have hlt' : (k : Int) < (p.length : Int) := by omega
      obtain ⟨b, off, x, rfl, hx, -, c0, -, -⟩ := ints_at hp hlt
      have C := Lib.hid (outClos_any x wr)
      rcases Bool.eq_false_or_eq_true (outB x) with hf | hf
      · have HA := Lib.hid (flAny_hit hx.out hf)
        rw [hf] at C
        clear hf
        go_wp2_with fail
        refine C.out.mono ?_
        rintro e w1 ⟨rfl, rfl⟩
        go_wp2
        go_ret
        exact ⟨k, rfl, by show decide _ = _; rw [HR.out, HA.out]; simp, rfl⟩
      · have HA := Lib.hid (flAny_succ hno.out hx.out hf)
        rw [hf] at C
        clear hf
        go_wp2_with fail
        refine C.out.mono ?_
        rintro e w1 ⟨rfl, rfl⟩
        go_wp2
        go_roundw
        case rel => exact ⟨k + 1, by omega, by go_num, HA.out, trivial⟩
        case measure => simp [intOf]; omega
    · have hlt' : ¬ (k : Int) < (p.length : Int) := by omega
      go_wp2
      go_ret
      have h3 := hno.out
      rw [List.take_of_length_le (by omega)] at h3
      exact ⟨-1, rfl, by show decide _ = _; rw [HR.out, h3]; rfl, rfl⟩
theorem containsOut_any (A : Option Addr) (n c : Nat) (p : List Int) (w : World) (hp : Rep.int.slice.R w (Lt w) p [.slice A n c]) :
    Calls Try.prog 90 #[.slice A n c, .func (.func 91) #[] #[]] w fun e w' => e = .returned (.bool (p.any outB)) ∧ w' = w := by
  have C := indexOut_any A n c p w hp
  generalize p.any outB = r at *
  go_enter Try.func90, Try.ntmps90
  go_wp2_with fail
  refine C.mono ?_
  rintro e w1 ⟨i, rfl, hi, rfl⟩
  go_wp2
  go_ret
  exact ⟨ret_bool hi.out, rfl⟩
/-! check -/
def shapeB (p : Shop) (r : List Int) : Bool := decide (r.length = 0) || decide (r.length ≠ nStat p)
theorem shop_eq (p : Shop) : shopF p = if 32 < p.length ∨ p.any bigB = true then 4 else if p.any (shapeB p) = true then 17 else if p.any (fun r => r.any outB) = true then 9 else 0 := rfl
theorem nstat_of {p : Shop} {r : List Int} (h : p[0]? = some r) : nStat p = r.length := by unfold nStat; rw [List.getD_eq_getElem?_getD, h]; rfl
set_option maxRecDepth 100000 in
set_option maxHeartbeats 2000000 in
theorem flCheck_any (A : Option Addr) (n c : Nat) (p : List (List Int)) (w : World) (hp : rowsR.R w (Lt w) p [.slice A n c]) :
    Calls Try.prog 50 #[.slice A n c] w fun e w' => e = .returned (.int .i64 (shopF p)) ∧ w' = w := by
  obtain ⟨A', c', e, hm, -⟩ := slice_inv hp
  injection e with e1 e2 e3
  subst e1 e2 e3
  obtain ⟨r, hr⟩ : ∃ r, r = shopF p := ⟨_, rfl⟩
  have HR : Hid (r = if 32 < p.length ∨ p.any bigB = true then 4 else if p.any (shapeB p) = true then 17 else if p.any (fun r => r.any outB) = true then 9 else 0) := hr
  rw [← hr]
  clear hr
  have CB := Lib.hid (containsBig_any A p.length c p w hp)
  obtain ⟨big, hbig⟩ : ∃ b, p.any bigB = b := ⟨_, rfl⟩
  rw [hbig] at CB HR
  clear hbig
  by_cases h32 : 32 < p.length
  · have h32' : (32 : Int) < (p.length : Int) := by omega
    have : r = 4 := by rw [HR.out, if_pos (.inl h32)]
    subst this
    clear HR CB hp
    go_enter Try.func50, Try.ntmps50
    go_wp2
    go_ret
    exact ⟨rfl, rfl⟩
  have h32' : ¬ (32 : Int) < (p.length : Int) := by omega
  cases big with
  | true =>
    have : r = 4 := by rw [HR.out, if_pos (.inr rfl)]
    subst this
    clear HR hp
    go_enter Try.func50, Try.ntmps50
    go_wp2_with fail
    refine CB.out.mono ?_
    rintro e w1 ⟨rfl, rfl⟩
    go_wp2
    go_ret
    exact ⟨rfl, rfl⟩
  | false =>
    have HR2 : Hid (r = if p.any (shapeB p) = true then 17 else if p.any (fun r => r.any outB) = true then 9 else 0) := by show _ = _; rw [HR.out, if_neg (by rw [not_or]; exact ⟨h32, by decide⟩)]
    clear HR
    go_enter Try.func50, Try.ntmps50
    go_wp2_with fail
    refine CB.out.mono ?_
    rintro e w1 ⟨rfl, rfl⟩
    go_wp2
    go_loopw [16] (fun i wr => ∃ k : Nat, k ≤ p.length ∧ i = .int .i64 k ∧ Hid ((p.take k).any (shapeB p) = false) ∧ wr = w1) (fun i _ => p.length - (intOf i).toNat)
    case atStart => exact ⟨0, Nat.zero_le _, rfl, rfl, rfl⟩
    case round =>
      obtain ⟨k, hk, rfl, hno, rfl⟩ := hrel
      by_cases hlt : k < p.length
      · have hlt' : (k : Int) < (p.length : Int) := by omega
        obtain ⟨b, off, row, R, cr, rfl, hx, -, c0, hrow, hrl⟩ := rows_at hp hlt
        obtain ⟨b0, off0, row0, R0, cr0, e0, hx0, -, c00, -, hrl0⟩ := rows_at hp (k := 0) (by omega)
        injection e0 with e0
        injection e0 with e01 e02 _
        subst e01 e02
        have hns := nstat_of hx0.out
        have h0 : (0 : Int) < (p.length : Int) := by omega
        rw [Nat.add_zero] at c00
        by_cases hz : row.length = 0
        · have HS : Hid (shapeB p row = true) := by show _ = _; unfold shapeB; simp [hz]
          have HA := Lib.hid (flAny_hit hx.out HS.out)
          have : r = 17 := by rw [HR2.out, if_pos HA.out]
          subst this
          have z0 : ((row.length : Int) == 0) = true := ieq_t (by omega)
          clear HR2 hrow hp hz
          go_wp2
          go_ret
          exact ⟨rfl, rfl⟩
        · have z0 : ((row.length : Int) == 0) = false := ieq_f (by omega)
          by_cases hne : row.length = row0.length
          · have HS : Hid (shapeB p row = false) := by show _ = _; unfold shapeB; rw [hns, decide_eq_false hz, decide_eq_false (fun h => h hne)]; rfl
            have HA := Lib.hid (flAny_succ hno.out hx.out HS.out)
            have z1 : ((row.length : Int) != (row0.length : Int)) = false := ine_f (by omega)
            clear hrow hz hne hns
            go_wp2
            go_roundw
            case rel => exact ⟨k + 1, by omega, by go_num, HA.out, trivial⟩
            case measure => simp [intOf]; omega
          · have HS : Hid (shapeB p row = true) := by show _ = _; unfold shapeB; rw [hns]; simp [hne]
            have HA := Lib.hid (flAny_hit hx.out HS.out)
            have : r = 17 := by rw [HR2.out, if_pos HA.out]
            subst this
            have z1 : ((row.length : Int) != (row0.length : Int)) = true := ine_t (by omega)
            clear HR2 hrow hp hz hne hns
            go_wp2
            go_ret
            exact ⟨rfl, rfl⟩
      · have hlt' : ¬ (k : Int) < (p.length : Int) := by omega
        have h3 := hno.out
        rw [List.take_of_length_le (by omega)] at h3
        have HR3 : Hid (r = if p.any (fun r => r.any outB) = true then 9 else 0) := by show _ = _; rw [HR2.out, if_neg (by rw [h3]; decide)]
        clear HR2 h3 hno
        go_wp2
        go_loopw [35] (fun i wx => ∃ k : Nat, k ≤ p.length ∧ i = .int .i64 k ∧ Hid ((p.take k).any (fun r => r.any outB) = false) ∧ wx = wr) (fun i _ => p.length - (intOf i).toNat)
        case atStart => exact ⟨0, Nat.zero_le _, rfl, rfl, rfl⟩
        case round =>
          clear hlt'
          obtain ⟨k2, hk2, rfl, hno, rfl⟩ := hrel
          by_cases hlt : k2 < p.length
          · have hlt' : (k2 : Int) < (p.length : Int) := by omega
            obtain ⟨b, off, row, R, cr, rfl, hx, -, c0, hrow, hrl⟩ := rows_at hp hlt
            have C := Lib.hid (containsOut_any R row.length cr row _ hrow)
            rcases Bool.eq_false_or_eq_true (row.any outB) with hf | hf
            · have HA := Lib.hid (flAny_hit (p := fun r : List Int => r.any outB) hx.out hf)
              have : r = 9 := by rw [HR3.out, if_pos HA.out]
              subst this
              rw [hf] at C
              clear hf hrow hp HR3
              go_wp2_with fail
              refine C.out.mono ?_
              rintro e w1 ⟨rfl, rfl⟩
              go_wp2
              go_ret
              exact ⟨rfl, rfl⟩
            · have HA := Lib.hid (flAny_succ (p := fun r : List Int => r.any outB) hno.out hx.out hf)
              rw [hf] at C
              clear hf hrow
              go_wp2_with fail
              refine C.out.mono ?_
              rintro e w1 ⟨rfl, rfl⟩
              go_wp2
              go_roundw
              case rel => exact ⟨k2 + 1, by omega, by go_num, HA.out, trivial⟩
              case measure => simp [intOf]; omega
          · have hlt' : ¬ (k2 : Int) < (p.length : Int) := by omega
            have h3 := hno.out
            rw [List.take_of_length_le (by omega)] at h3
            have : r = 0 := by rw [HR3.out, if_neg (by rw [h3]; decide)]
            subst this
            go_wp2
            go_ret
            exact ⟨rfl, rfl⟩
end Go.Proofs.Ytcnkocnajamclaa

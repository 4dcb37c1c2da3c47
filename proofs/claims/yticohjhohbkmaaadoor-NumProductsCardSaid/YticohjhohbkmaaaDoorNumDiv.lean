/- Chapter 01: math/bits.Div64, by walking its text. -/
import Derived.Test.YticohjhohbkmaaaDoorNumW1
import Derived.Test.YticohjhohbkmaaaDoorNumKnuth
import Derived.Test.YticohjhohbkmaaaDoorNumShelf
import Derived.Test.YticohjhohbkmaaaDoorPow
import Derived.Deep.DeepCutAuto
import Derived.Deep.CutBlock
namespace Go.Proofs.YticohjhohbkmaaaDoor
open Go Go.RowKit

def DivRes (h l y : Nat) (w : World) (e : Ending) (w' : World) : Prop := e = .returned (.tuple #[.int .u64 (((h * 18446744073709551616 + l) / y : Nat) : Int), .int .u64 (((h * 18446744073709551616 + l) % y : Nat) : Int)]) ∧ Qt w w'
theorem ret_uu {a b c d : Int} (h1 : a = c) (h2 : b = d) : Ending.returned (.tuple #[.int .u64 a, .int .u64 b]) = .returned (.tuple #[.int .u64 c, .int .u64 d]) := by rw [h1, h2]
set_option maxHeartbeats 1000000 in
theorem div_small (l y : Nat) (w : World) (hl : l < 18446744073709551616) (hy : y < 18446744073709551616) (hy0 : 0 < y) :
    Calls Tryd.prog 33 #[.int .u64 0, .int .u64 l, .int .u64 y] w (DivRes 0 l y w) := by
  have hb : ((y : Int) == 0) = false := ieq_f (by omega)
  have hy1 : (1 : Int) ≤ (y : Int) := by omega
  have hl0 : (0 : Int) ≤ (l : Int) := by omega
  have hq : IntKind.u64.wrap ((l : Int) / (y : Int)) = ((l / y : Nat) : Int) := by
    rw [← Int.natCast_ediv]
    have := Nat.div_le_self l y
    generalize l / y = q at *
    exact IntWalk.u64_in _ (by omega)
  go_enter Tryd.func33, Tryd.ntmps33
  go_wp2
  go_quiet (fail)
  go_wp2
  go_ret2
  exact ⟨ret_uu (by simp) (by simp), (Qt.refl _).drewN _⟩
theorem u64_and_nat (a : Nat) (ha : a < 18446744073709551616) : bits .and .u64 (a : Int) 4294967295 = ((a % 4294967296 : Nat) : Int) := by
  have e : a &&& 4294967295 = a % 4294967296 := by
    have := Nat.and_two_pow_sub_one_eq_mod a 32
    simpa using this
  show IntKind.u64.wrap ((BitVec.ofInt 64 (a : Int) &&& BitVec.ofInt 64 4294967295).toNat : Int) = _
  rw [BitVec.toNat_and, BitVec.ofInt_natCast, show BitVec.ofInt 64 4294967295 = BitVec.ofNat 64 4294967295 from rfl, BitVec.toNat_ofNat, BitVec.toNat_ofNat, Nat.mod_eq_of_lt (by omega), Nat.mod_eq_of_lt (by omega), e]
  exact IntWalk.u64_in _ (by omega)
theorem u64_or_nat (a b : Nat) (ha : a < 18446744073709551616) (hb : b < 18446744073709551616) : bits .or .u64 (a : Int) (b : Int) = ((a ||| b : Nat) : Int) := by
  have hx : a ||| b < 2 ^ 64 := Nat.or_lt_two_pow (by omega) (by omega)
  show IntKind.u64.wrap ((BitVec.ofInt 64 (a : Int) ||| BitVec.ofInt 64 (b : Int)).toNat : Int) = _
  rw [BitVec.toNat_or, BitVec.ofInt_natCast, BitVec.ofInt_natCast, BitVec.toNat_ofNat, BitVec.toNat_ofNat, Nat.mod_eq_of_lt (by omega), Nat.mod_eq_of_lt (by omega)]
  exact IntWalk.u64_in _ (by omega)
theorem or_add {b s H x : Nat} (hx : x < 2 ^ s) (hH : H = b * 2 ^ s) : H ||| x = H + x := by
  have := Nat.two_pow_add_eq_or_of_lt (i := s) (b := x) hx b
  rw [hH, Nat.mul_comm, ← this]
/-- the scaled numbers, and the names under which the walk meets them. -/
structure DivNum (h l y s Y y1 y0 H u Lw c1 c0 : Nat) : Prop where
  eY : IntKind.u64.wrap ((y : Int) * 2 ^ s) = (Y : Int)
  ey1 : (Y : Int) / 4294967296 = (y1 : Int)
  ey0 : bits .and .u64 (Y : Int) 4294967295 = (y0 : Int)
  eH : IntKind.u64.wrap ((h : Int) * 2 ^ s) = (H : Int)
  eu : bits .or .u64 (H : Int) ((l : Int) / 2 ^ (64 - s)) = (u : Int)
  eL : IntKind.u64.wrap ((l : Int) * 2 ^ s) = (Lw : Int)
  ec1 : (Lw : Int) / 4294967296 = (c1 : Int)
  ec0 : bits .and .u64 (Lw : Int) 4294967295 = (c0 : Int)
  hY : Y = y1 * 4294967296 + y0
  h1 : 2147483648 ≤ y1
  h2 : y1 < 4294967296
  h3 : y0 < 4294967296
  h4 : u < y1 * 4294967296 + y0
  h5 : c1 < 4294967296
  h6 : c0 < 4294967296
  h7 : (u * 4294967296 + c1) * 4294967296 + c0 = (h * 18446744073709551616 + l) * 2 ^ s
  h8 : Y = y * 2 ^ s
theorem cast_pow (a s : Nat) : (a : Int) * 2 ^ s = ((a * 2 ^ s : Nat) : Int) := by simp
theorem div_num {h l y s : Nat} (hh : h < y) (hl : l < 18446744073709551616) (hs : s ≤ 63) (hy1 : 9223372036854775808 ≤ y * 2 ^ s) (hy2 : y * 2 ^ s < 18446744073709551616) :
    ∃ Y y1 y0 H u Lw c1 c0, DivNum h l y s Y y1 y0 H u Lw c1 c0 := by
  have hp : 0 < 2 ^ s := Nat.two_pow_pos s
  have hps : 2 ^ s * 2 ^ (64 - s) = 18446744073709551616 := by rw [← Nat.pow_add, show s + (64 - s) = 64 from by omega]
  have hHY : h * 2 ^ s + 2 ^ s ≤ y * 2 ^ s := by
    have := Nat.mul_le_mul_right (2 ^ s) (show h + 1 ≤ y from hh)
    rw [Nat.add_mul, Nat.one_mul] at this; exact this
  have hx : l / 2 ^ (64 - s) < 2 ^ s := by
    rw [Nat.div_lt_iff_lt_mul (Nat.two_pow_pos _), hps]; exact hl
  have hl2 : l * 2 ^ s = l / 2 ^ (64 - s) * 18446744073709551616 + l * 2 ^ s % 18446744073709551616 := by
    have e : l * 2 ^ s / 18446744073709551616 = l / 2 ^ (64 - s) := by
      rw [← hps, Nat.mul_comm l, Nat.mul_div_mul_left _ _ hp]
    rw [← e, Nat.mul_comm (l * 2 ^ s / 18446744073709551616)]
    exact (Nat.div_add_mod _ _).symm
  have hLw : l * 2 ^ s % 18446744073709551616 < 18446744073709551616 := Nat.mod_lt _ (by omega)
  refine ⟨y * 2 ^ s, y * 2 ^ s / 4294967296, y * 2 ^ s % 4294967296, h * 2 ^ s, h * 2 ^ s + l / 2 ^ (64 - s), l * 2 ^ s % 18446744073709551616, l * 2 ^ s % 18446744073709551616 / 4294967296, l * 2 ^ s % 18446744073709551616 % 4294967296, ?_⟩
  have hg : h * 18446744073709551616 * 2 ^ s = h * 2 ^ s * 18446744073709551616 := by rw [Nat.mul_right_comm]
  have hadd : (h * 18446744073709551616 + l) * 2 ^ s = h * 18446744073709551616 * 2 ^ s + l * 2 ^ s := Nat.add_mul _ _ _
  have ecast : ((l : Int) / 2 ^ (64 - s)) = ((l / 2 ^ (64 - s) : Nat) : Int) := by simp
  constructor
  · rw [cast_pow]; exact IntWalk.u64_in _ (by omega)
  · exact (Int.natCast_ediv _ _).symm
  · exact u64_and_nat _ hy2
  · rw [cast_pow]; exact IntWalk.u64_in _ (by omega)
  · rw [ecast, u64_or_nat _ _ (by omega) (by omega), or_add hx rfl]
  · rw [cast_pow, IntKind.wrap_u64]; omega
  · exact (Int.natCast_ediv _ _).symm
  · exact u64_and_nat _ hLw
  · omega
  · omega
  · omega
  · omega
  · omega
  · omega
  · omega
  · rw [hadd, hg, hl2]; omega
  · rfl
theorem rem_walk0 {A0 N c q Y : Nat} (hN : N = A0 + c) (h0 : A0 % 4294967296 = 0) (hq : q = N / Y) (hc : c < 4294967296) (hY : 0 < Y) (hY2 : Y < 18446744073709551616) :
    ∃ A B u2 : Nat, IntKind.u64.wrap (A0 : Int) = (A : Int) ∧ A + 4294967295 < 18446744073709551616 ∧ IntKind.u64.wrap ((q : Int) * (Y : Int)) = (B : Int) ∧ IntKind.u64.wrap ((A : Int) + (c : Int) - (B : Int)) = (u2 : Int) ∧ u2 = N % Y ∧ u2 < Y := by
  have hm := Nat.mod_lt N hY
  have hd := Nat.div_add_mod N Y
  rw [← hq, Nat.mul_comm] at hd
  refine ⟨A0 % 18446744073709551616, q * Y % 18446744073709551616, N % Y, ?_, by omega, ?_, ?_, rfl, hm⟩
  · rw [IntKind.wrap_u64]; omega
  · rw [IntKind.wrap_u64, ← Int.natCast_mul]
    generalize q * Y = z
    omega
  · rw [IntKind.wrap_u64]
    generalize N % Y = m at *
    generalize q * Y = z at *
    omega
theorem rem_walk {u c q Y : Nat} (hq : q = (u * 4294967296 + c) / Y) (hc : c < 4294967296) (hY : 0 < Y) (hY2 : Y < 18446744073709551616) :
    ∃ A B u2 : Nat, IntKind.u64.wrap ((u : Int) * 4294967296) = (A : Int) ∧ A + 4294967295 < 18446744073709551616 ∧ IntKind.u64.wrap ((q : Int) * (Y : Int)) = (B : Int) ∧ IntKind.u64.wrap ((A : Int) + (c : Int) - (B : Int)) = (u2 : Int) ∧ u2 = (u * 4294967296 + c) % Y ∧ u2 < Y := by
  obtain ⟨A, B, u2, h1, h2, h3, h4, h5, h6⟩ := rem_walk0 (A0 := u * 4294967296) rfl (Nat.mul_mod_left _ _) hq hc hY hY2
  refine ⟨A, B, u2, ?_, h2, h3, h4, h5, h6⟩
  rw [← h1, Int.natCast_mul]; rfl
theorem fin_rem {N y s m : Nat} (h : m = N * 2 ^ s % (y * 2 ^ s)) : m / 2 ^ s = N % y := by
  rw [h, Nat.mul_mod_mul_right]
  exact Nat.mul_div_cancel _ (Nat.two_pow_pos s)
set_option maxRecDepth 100000 in
set_option maxHeartbeats 4000000 in
theorem div_big (h l y : Nat) (w : World) (hh0 : 0 < h) (hh : h < y) (hl : l < 18446744073709551616) (hy : y < 18446744073709551616) :
    Calls Tryd.prog 33 #[.int .u64 h, .int .u64 l, .int .u64 y] w (DivRes h l y w) := by
  have hb : ((y : Int) == 0) = false := ieq_f (by omega)
  have hb2 : ((h : Int) == 0) = false := ieq_f (by omega)
  have hb3 : ¬ (y : Int) ≤ (h : Int) := by omega
  go_enter Tryd.func33, Tryd.ntmps33
  go_wp2_with fail
  refine (Tryd.bits_LeadingZeros64 y _ (by omega) (by omega)).mono ?_
  rintro e w1 ⟨rfl, rfl⟩
  rw [Int.toNat_natCast]
  obtain ⟨hL1, hL3, hL4, hL2⟩ := bitLen_bd 64 y (by omega) (by omega) (by omega)
  obtain ⟨s, hs⟩ : ∃ s : Nat, (64 : Int) - (Lib.bitLen y : Int) = (s : Int) := ⟨64 - Lib.bitLen y, by omega⟩
  have hs64 : s ≤ 63 := by omega
  have hyl : 9223372036854775808 ≤ y * 2 ^ s := by
    have := Nat.mul_le_mul_right (2 ^ s) hL3
    rw [← Nat.pow_add, show Lib.bitLen y - 1 + s = 63 from by omega] at this
    omega
  have hyh : y * 2 ^ s < 18446744073709551616 := by
    have := Nat.mul_lt_mul_of_pos_right hL4 (Nat.two_pow_pos s)
    rw [← Nat.pow_add, show Lib.bitLen y + s = 64 from by omega] at this
    omega
  obtain ⟨Y, y1, y0, H, u, Lw, c1, c0, D⟩ := div_num (l := l) hh hl hs64 hyl hyh
  rw [hs]
  clear hs hL1 hL2 hL3 hL4 hyl hyh
  have r1 := D.eY
  have r2 := D.ey1
  have r3 := D.ey0
  have r4 := D.eH
  have r5 := D.eu
  have r6 := D.eL
  have r7 := D.ec1
  have r8 := D.ec0
  obtain ⟨k1, k2, k3, k4⟩ := kn_first D.h1 D.h3 D.h4 D.h5
  have e1 : (u : Int) / (y1 : Int) = ((u / y1 : Nat) : Int) := (Int.natCast_ediv _ _).symm
  have hy1a := D.h1
  have hy1b := D.h2
  have hy0b := D.h3
  have hub : u < 18446744073709551616 := by have := D.h4; omega
  have hc1b := D.h5
  generalize hq : u / y1 = q at *
  generalize hr : u % y1 = r at *
  have e2 : IntKind.u64.wrap ((q : Int) * (y1 : Int)) = ((q * y1 : Nat) : Int) := by
    rw [← Int.natCast_mul]; exact IntWalk.u64_in _ (by omega)
  have e3 : (u : Int) - ((q * y1 : Nat) : Int) = (r : Int) := by omega
  have e4 : IntKind.u64.wrap (u : Int) = (u : Int) := IntWalk.u64_in _ (by omega)
  generalize hp : q * y1 = p at *
  have HQ := Lib.hid hq
  have HR := Lib.hid hr
  have HP := Lib.hid hp
  clear hq hr hp
  have hk1 := Lib.hid k1
  have hk4 := Lib.hid k4
  have hrb1 : r < y1 := k2
  have HD4 := Lib.hid D.h4
  clear k1 k2 k4
  go_upto_block 0 with fail
  clear e2 e3
  go_cut [15, 16] (fun a b wx => (∃ q' r' : Nat, a = .int .u64 q' ∧ b = .int .u64 r' ∧ Hid (q' = (u * 4294967296 + c1) / (y1 * 4294967296 + y0))) ∧ wx = w1)
  case first =>
    go_wp2_with fail
    go_loop [15, 16] (fun a b => ∃ q' r' : Nat, a = .int .u64 q' ∧ b = .int .u64 r' ∧ q' ≤ 4294967297 ∧ r' < 4294967296 ∧ Hid (q' * y1 + r' = u) ∧ Hid ((u * 4294967296 + c1) / (y1 * 4294967296 + y0) ≤ q')) (fun a _ => (intOf a).toNat)
    case atStart => exact ⟨q, r, rfl, rfl, k3, by omega, (by show _ = _; rw [HP.out]; exact hk1.out), hk4⟩
    case round =>
      obtain ⟨q', r', rfl, rfl, hq1, hr1, hi, hq2⟩ := hrel
      have hyp : 0 < y1 := by omega
      by_cases hbig : 4294967296 ≤ q'
      · have hlt := kn_yes hi.out hyp HD4.out hc1b (.inl hbig)
        have d1 : decide ((4294967296 : Int) ≤ (q' : Int)) = true := decide_eq_true (by omega)
        have d1' : (4294967296 : Int) ≤ (q' : Int) := by omega
        clear hbig
        have hq0 : 1 ≤ q' := Nat.lt_of_le_of_lt (Nat.zero_le _) hlt
        have HI : Hid ((q' - 1) * y1 + (r' + y1) = u) := by
          show _ = _
          have e : q' * y1 = (q' - 1) * y1 + y1 := by
            conv => lhs; rw [show q' = (q' - 1) + 1 from by omega]
            rw [Nat.add_mul, Nat.one_mul]
          have := hi.out
          omega
        have HQ2 : Hid ((u * 4294967296 + c1) / (y1 * 4294967296 + y0) ≤ q' - 1) := by
          show _ ≤ _
          exact Nat.le_sub_one_of_lt hlt
        have eq1 : (q' : Int) - 1 = ((q' - 1 : Nat) : Int) := by omega
        have hqm : q' - 1 ≤ 4294967296 := by omega
        clear hlt
        by_cases hbr : 4294967296 ≤ r' + y1
        · have HE := Lib.hid (kn_break HI.out hyp hbr hqm (by omega) HQ2.out)
          have hbr' : (4294967296 : Int) ≤ (r' : Int) + (y1 : Int) := by omega
          clear hbr eq1 hqm
          go_wp2
          go_meet
          case rel => exact ⟨⟨q' - 1, r' + y1, by go_num, by go_num, HE⟩, by trivial⟩
        · have hbr' : ¬ (4294967296 : Int) ≤ (r' : Int) + (y1 : Int) := by omega
          have hrb := Lib.hid (show r' + y1 < 4294967296 by omega)
          have hqb := Lib.hid (show q' - 1 ≤ 4294967297 by omega)
          clear hbr eq1 hqm
          go_wp2
          go_round
          case rel => exact ⟨q' - 1, r' + y1, by go_num, by go_num, hqb.out, hrb.out, HI, HQ2⟩
          case measure => simp [intOf]; omega
      · have d1 : decide ((4294967296 : Int) ≤ (q' : Int)) = false := decide_eq_false (by omega)
        have hmb : q' * y0 < 18446744073709551616 := by
          have := Nat.mul_le_mul (show q' ≤ 4294967295 by omega) (show y0 ≤ 4294967295 by omega)
          omega
        have eM : IntKind.u64.wrap ((q' : Int) * (y0 : Int)) = ((q' * y0 : Nat) : Int) := by
          rw [← Int.natCast_mul]; exact IntWalk.u64_in _ (by omega)
        by_cases ht : 4294967296 * r' + c1 < q' * y0
        · have hlt := kn_yes hi.out hyp HD4.out hc1b (.inr ht)
          generalize hm : q' * y0 = m at *
          have ht' : (4294967296 : Int) * (r' : Int) + (c1 : Int) < (m : Int) := by omega
          have HM := Lib.hid hm
          clear hm ht
          have hq0 : 1 ≤ q' := Nat.lt_of_le_of_lt (Nat.zero_le _) hlt
          have HI : Hid ((q' - 1) * y1 + (r' + y1) = u) := by
            show _ = _
            have e : q' * y1 = (q' - 1) * y1 + y1 := by
              conv => lhs; rw [show q' = (q' - 1) + 1 from by omega]
              rw [Nat.add_mul, Nat.one_mul]
            have := hi.out
            omega
          have HQ2 : Hid ((u * 4294967296 + c1) / (y1 * 4294967296 + y0) ≤ q' - 1) := by
            show _ ≤ _
            exact Nat.le_sub_one_of_lt hlt
          have eq1 : (q' : Int) - 1 = ((q' - 1 : Nat) : Int) := by omega
          have hqm : q' - 1 ≤ 4294967296 := by omega
          clear hlt
          by_cases hbr : 4294967296 ≤ r' + y1
          · have HE := Lib.hid (kn_break HI.out hyp hbr hqm (by omega) HQ2.out)
            have hbr' : (4294967296 : Int) ≤ (r' : Int) + (y1 : Int) := by omega
            clear hbr eq1 hqm
            go_wp2
            go_meet
            case rel => exact ⟨⟨q' - 1, r' + y1, by go_num, by go_num, HE⟩, by trivial⟩
          · have hbr' : ¬ (4294967296 : Int) ≤ (r' : Int) + (y1 : Int) := by omega
            have hrb := Lib.hid (show r' + y1 < 4294967296 by omega)
            have hqb := Lib.hid (show q' - 1 ≤ 4294967297 by omega)
            clear hbr eq1 hqm
            go_wp2
            go_round
            case rel => exact ⟨q' - 1, r' + y1, by go_num, by go_num, hqb.out, hrb.out, HI, HQ2⟩
            case measure => simp [intOf]; omega
        · have HE := Lib.hid (kn_no hi.out hyp (by omega) hq2.out)
          generalize hm : q' * y0 = m at *
          have ht' : ¬ (4294967296 : Int) * (r' : Int) + (c1 : Int) < (m : Int) := by omega
          have HM := Lib.hid hm
          clear hm ht
          go_wp2
          go_meet
          case rel => exact ⟨⟨q', r', rfl, rfl, HE⟩, by trivial⟩
  case rest =>
    obtain ⟨⟨qN, rN, rfl, rfl, HQN⟩, rfl⟩ := hcut
    have hYb : Y < 18446744073709551616 := by have := D.hY; omega
    have hYp : 0 < Y := by have := D.hY; omega
    have hQb : qN < 4294967296 := by rw [HQN.out]; exact kn_lt HD4.out hc1b
    have HQN' : Hid (qN = (u * 4294967296 + c1) / Y) := by show _ = _; rw [D.hY]; exact HQN.out
    obtain ⟨A, B, u2, f1, f2, f3, f4, f5, f6⟩ := rem_walk HQN'.out hc1b hYp hYb
    have hu2 : u2 < y1 * 4294967296 + y0 := by rw [← D.hY]; exact f6
    obtain ⟨k1, k2, k3', k4⟩ := kn_first D.h1 D.h3 hu2 D.h6
    have g1 : (u2 : Int) / (y1 : Int) = ((u2 / y1 : Nat) : Int) := (Int.natCast_ediv _ _).symm
    have hc0b := D.h6
    have HF5 := Lib.hid f5
    have HU2 := Lib.hid hu2
    clear f5 hu2
    generalize hq : u2 / y1 = q2 at *
    generalize hr : u2 % y1 = rr2 at *
    have g2 : IntKind.u64.wrap ((q2 : Int) * (y1 : Int)) = ((q2 * y1 : Nat) : Int) := by
      rw [← Int.natCast_mul]; exact IntWalk.u64_in _ (by omega)
    have g3 : (u2 : Int) - ((q2 * y1 : Nat) : Int) = (rr2 : Int) := by omega
    generalize hp : q2 * y1 = p2 at *
    have HQ2 := Lib.hid hq
    have HR2 := Lib.hid hr
    have HP2 := Lib.hid hp
    clear hq hr hp e1 e4 r1 r2 r3 r4 r5 r6 r7 r8
    have hk1 := Lib.hid k1
    have hk4 := Lib.hid k4
    have hrb2 : rr2 < y1 := k2
    clear k1 k2 k4
    go_upto_block 2 with fail
    clear g1 g2 g3 f1 f2 f3 f4
    go_cut [18, 16] (fun a b wx => (∃ q' r' : Nat, a = .int .u64 q' ∧ b = .int .u64 r' ∧ Hid (q' = (u2 * 4294967296 + c0) / (y1 * 4294967296 + y0))) ∧ wx = wc)
    case first =>
      go_wp2_with fail
      go_loop [18, 16] (fun a b => ∃ q' r' : Nat, a = .int .u64 q' ∧ b = .int .u64 r' ∧ q' ≤ 4294967297 ∧ r' < 4294967296 ∧ Hid (q' * y1 + r' = u2) ∧ Hid ((u2 * 4294967296 + c0) / (y1 * 4294967296 + y0) ≤ q')) (fun a _ => (intOf a).toNat)
      case atStart => exact ⟨q2, rr2, rfl, rfl, k3', by omega, (by show _ = _; rw [HP2.out]; exact hk1.out), hk4⟩
      case round =>
        obtain ⟨q', r', rfl, rfl, hq1, hr1, hi, hq2⟩ := hrel
        have hyp : 0 < y1 := by omega
        by_cases hbig : 4294967296 ≤ q'
        · have hlt := kn_yes hi.out hyp HU2.out hc0b (.inl hbig)
          have d1 : decide ((4294967296 : Int) ≤ (q' : Int)) = true := decide_eq_true (by omega)
          have d1' : (4294967296 : Int) ≤ (q' : Int) := by omega
          clear hbig
          have hq0 : 1 ≤ q' := Nat.lt_of_le_of_lt (Nat.zero_le _) hlt
          have HI : Hid ((q' - 1) * y1 + (r' + y1) = u2) := by
            show _ = _
            have e : q' * y1 = (q' - 1) * y1 + y1 := by
              conv => lhs; rw [show q' = (q' - 1) + 1 from by omega]
              rw [Nat.add_mul, Nat.one_mul]
            have := hi.out
            omega
          have HQ2 : Hid ((u2 * 4294967296 + c0) / (y1 * 4294967296 + y0) ≤ q' - 1) := by
            show _ ≤ _
            exact Nat.le_sub_one_of_lt hlt
          have eq1 : (q' : Int) - 1 = ((q' - 1 : Nat) : Int) := by omega
          have hqm : q' - 1 ≤ 4294967296 := by omega
          clear hlt
          by_cases hbr : 4294967296 ≤ r' + y1
          · have HE := Lib.hid (kn_break HI.out hyp hbr hqm (by omega) HQ2.out)
            have hbr' : (4294967296 : Int) ≤ (r' : Int) + (y1 : Int) := by omega
            clear hbr eq1 hqm
            go_wp2
            go_meet
            case rel => exact ⟨⟨q' - 1, r' + y1, by go_num, by go_num, HE⟩, by trivial⟩
          · have hbr' : ¬ (4294967296 : Int) ≤ (r' : Int) + (y1 : Int) := by omega
            have hrb := Lib.hid (show r' + y1 < 4294967296 by omega)
            have hqb := Lib.hid (show q' - 1 ≤ 4294967297 by omega)
            clear hbr eq1 hqm
            go_wp2
            go_round
            case rel => exact ⟨q' - 1, r' + y1, by go_num, by go_num, hqb.out, hrb.out, HI, HQ2⟩
            case measure => simp [intOf]; omega
        · have d1 : decide ((4294967296 : Int) ≤ (q' : Int)) = false := decide_eq_false (by omega)
          have hmb : q' * y0 < 18446744073709551616 := by
            have := Nat.mul_le_mul (show q' ≤ 4294967295 by omega) (show y0 ≤ 4294967295 by omega)
            omega
          have eM : IntKind.u64.wrap ((q' : Int) * (y0 : Int)) = ((q' * y0 : Nat) : Int) := by
            rw [← Int.natCast_mul]; exact IntWalk.u64_in _ (by omega)
          by_cases ht : 4294967296 * r' + c0 < q' * y0
          · have hlt := kn_yes hi.out hyp HU2.out hc0b (.inr ht)
            generalize hm : q' * y0 = m at *
            have ht' : (4294967296 : Int) * (r' : Int) + (c0 : Int) < (m : Int) := by omega
            have HM := Lib.hid hm
            clear hm ht
            have hq0 : 1 ≤ q' := Nat.lt_of_le_of_lt (Nat.zero_le _) hlt
            have HI : Hid ((q' - 1) * y1 + (r' + y1) = u2) := by
              show _ = _
              have e : q' * y1 = (q' - 1) * y1 + y1 := by
                conv => lhs; rw [show q' = (q' - 1) + 1 from by omega]
                rw [Nat.add_mul, Nat.one_mul]
              have := hi.out
              omega
            have HQ2 : Hid ((u2 * 4294967296 + c0) / (y1 * 4294967296 + y0) ≤ q' - 1) := by
              show _ ≤ _
              exact Nat.le_sub_one_of_lt hlt
            have eq1 : (q' : Int) - 1 = ((q' - 1 : Nat) : Int) := by omega
            have hqm : q' - 1 ≤ 4294967296 := by omega
            clear hlt
            by_cases hbr : 4294967296 ≤ r' + y1
            · have HE := Lib.hid (kn_break HI.out hyp hbr hqm (by omega) HQ2.out)
              have hbr' : (4294967296 : Int) ≤ (r' : Int) + (y1 : Int) := by omega
              clear hbr eq1 hqm
              go_wp2
              go_meet
              case rel => exact ⟨⟨q' - 1, r' + y1, by go_num, by go_num, HE⟩, by trivial⟩
            · have hbr' : ¬ (4294967296 : Int) ≤ (r' : Int) + (y1 : Int) := by omega
              have hrb := Lib.hid (show r' + y1 < 4294967296 by omega)
              have hqb := Lib.hid (show q' - 1 ≤ 4294967297 by omega)
              clear hbr eq1 hqm
              go_wp2
              go_round
              case rel => exact ⟨q' - 1, r' + y1, by go_num, by go_num, hqb.out, hrb.out, HI, HQ2⟩
              case measure => simp [intOf]; omega
          · have HE := Lib.hid (kn_no hi.out hyp (by omega) hq2.out)
            generalize hm : q' * y0 = m at *
            have ht' : ¬ (4294967296 : Int) * (r' : Int) + (c0 : Int) < (m : Int) := by omega
            have HM := Lib.hid hm
            clear hm ht
            go_wp2
            go_meet
            case rel => exact ⟨⟨q', r', rfl, rfl, HE⟩, by trivial⟩
    case rest =>
      obtain ⟨⟨qM, rM, rfl, rfl, HQM⟩, rfl⟩ := hcut
      have hQb2 : qM < 4294967296 := by rw [HQM.out]; exact kn_lt HU2.out hc0b
      have HQM' : Hid (qM = (u2 * 4294967296 + c0) / Y) := by show _ = _; rw [D.hY]; exact HQM.out
      obtain ⟨A2, B2, m, f1, f2, f3, f4, f5, f6⟩ := rem_walk HQM'.out hc0b hYp hYb
      obtain ⟨j1, j2⟩ := kn_two (u * 4294967296 + c1) c0 Y 4294967296 hYp
      rw [← HQN'.out, ← HF5.out, ← HQM'.out, D.h7, D.h8, Nat.mul_div_mul_right _ _ (Nat.two_pow_pos s)] at j1
      rw [← HF5.out, ← f5, D.h7, D.h8] at j2
      have HJ1 := Lib.hid j1
      have HJ2 := Lib.hid (fin_rem j2.symm)
      clear j1 j2 f5
      go_wp2
      go_ret2
      exact ⟨ret_uu (by rw [HJ1.out]; simp) (by rw [← HJ2.out]; simp), Qt.refl _⟩
end Go.Proofs.YticohjhohbkmaaaDoor

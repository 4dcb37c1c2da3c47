/- Chapter 01: the laws NumDivides, NumGcds, NumRoots, NumTexts, NumParses, by walking their text. -/
import Derived.Test.YticohjhohbkmaaaDoorNumAlive
import Derived.Test.YticohjhohbkmaaaDoorOpenZ
namespace Go.Proofs.YticohjhohbkmaaaDoor
open Go Go.RowKit Go.ChangeShapes

theorem opens_i : OpensZ Tryd.prog 3 Rep.int (fun _ => True) := opensZ_of (opens_int Tryd.underlying3)
def StrZ (s : ByteArray) : Prop := s.size ≤ 140737488351232
theorem opens_s : OpensZ Tryd.prog 9 Rep.str StrZ := opensZ_str Tryd.underlying9
theorem opens_is : OpensZ Tryd.prog 33 Rep.int.slice (SliceZ (fun _ => True)) := opensZ_slice Tryd.underlying33 (by kernel_rfl) (by decide) (of_decide_eq_true (by kernel_rfl)) opens_i
theorem i64_inv {w : World} {D : Nat → Prop} {x a : Int} (h : Rep.int.R w D x (Value.int .i64 a).cells.toList) : a = x ∧ -9223372036854775808 ≤ x ∧ x ≤ 9223372036854775807 := by
  obtain ⟨e, h⟩ := h
  have e' : [Value.int .i64 a] = [Value.int .i64 x] := e
  exact ⟨by simpa using e', h⟩
theorem str_inv {w : World} {D : Nat → Prop} {x a : ByteArray} (h : Rep.str.R w D x (Value.string a).cells.toList) : a = x := by
  obtain ⟨e, _⟩ := h
  have e' : [Value.string a] = [Value.string x] := e
  simpa using e'
set_option maxRecDepth 100000 in
set_option maxHeartbeats 2000000 in
theorem divides_law (a b a' b' : Int) (w : World) (hT : TabP w) (ha : Rep.int.R w (Lt w) a' (Value.int .i64 a).cells.toList) (_ : True) (hb : Rep.int.R w (Lt w) b' (Value.int .i64 b).cells.toList) (_ : True) :
    Calls Tryd.prog 3 #[.int .i64 a, .int .i64 b] w (Ret (.bool true) w) := by
  obtain ⟨rfl, a0, a1⟩ := i64_inv ha
  obtain ⟨rfl, b0, b1⟩ := i64_inv hb
  clear ha hb
  have HT := Lib.hid hT
  have c1 := Lib.hid (fun w => floor_any a b w a0 a1 b0 b1)
  have c2 := Lib.hid (fun w => refFloor_any a b w a0 a1 b0 b1)
  have c3 := Lib.hid (fun w => ceil_any a b w a0 a1 b0 b1)
  have c4 := Lib.hid (fun w => refCeil_any a b w a0 a1 b0 b1)
  have c5 := Lib.hid (fun w => round_any a b w a0 a1 b0 b1)
  have c6 := Lib.hid (fun w => refRound_any a b w a0 a1 b0 b1)
  clear hT
  generalize floorF a b = x at *
  generalize ceilF a b = y at *
  generalize roundF a b = z at *
  obtain ⟨x1, x2⟩ := x
  obtain ⟨y1, y2⟩ := y
  obtain ⟨z1, z2⟩ := z
  have s1 := beq_self_int x1
  have s2 := beq_self_int x2
  have s3 := beq_self_int y1
  have s4 := beq_self_int y2
  have s5 := beq_self_int z1
  have s6 := beq_self_int z2
  go_enter Tryd.func3, Tryd.ntmps3
  go_wp2_with fail
  refine (c1.out _).mono ?_
  rintro e w1 ⟨rfl, q1⟩
  go_wp2_with fail
  refine (c2.out _).mono ?_
  rintro e w2 ⟨rfl, hq⟩
  have q2 := q1.trans hq
  clear hq q1
  go_wp2_with fail
  refine (c3.out _).mono ?_
  rintro e w3 ⟨rfl, hq⟩
  have q3 := q2.trans hq
  clear hq q2
  go_wp2_with fail
  refine (c4.out _).mono ?_
  rintro e w4 ⟨rfl, hq⟩
  have q4 := q3.trans hq
  clear hq q3
  go_wp2_with fail
  refine (c5.out _).mono ?_
  rintro e w5 ⟨rfl, hq⟩
  have q5 := q4.trans hq
  clear hq q4
  go_wp2_with fail
  refine (c6.out _).mono ?_
  rintro e w6 ⟨rfl, hq⟩
  have q6 := q5.trans hq
  clear hq q5
  have b6 := q6.below w.heap.size
  have HT6 := Lib.hid (HT.out.qt q6)
  clear q6
  go_wp2_with fail
  refine (alive_any _ HT6.out).mono ?_
  rintro e w7 ⟨rfl, hb⟩
  go_wp2_with fail
  go_ret
  exact ⟨rfl, bstep b6 b6.size hb⟩
theorem gcd_facts {a b : Int} (h : gcdF a b ≠ 0) : 0 < gcdF a b ∧ a % gcdF a b = 0 ∧ b % gcdF a b = 0 ∧ ∀ d : Int, d ≠ 0 → a % d = 0 → b % d = 0 → gcdF a b % d = 0 := by
  unfold gcdF at *
  split at h
  · exact absurd rfl h
  · rename_i hn
    rw [if_neg hn]
    have hpos : 0 < Nat.gcd a.natAbs b.natAbs := by omega
    refine ⟨by omega, ?_, ?_, fun d hd h1 h2 => ?_⟩
    · exact Int.emod_eq_zero_of_dvd (Int.ofNat_dvd_left.2 (Nat.gcd_dvd_left _ _))
    · exact Int.emod_eq_zero_of_dvd (Int.ofNat_dvd_left.2 (Nat.gcd_dvd_right _ _))
    · have e1 := Int.natAbs_dvd_natAbs.2 (Int.dvd_of_emod_eq_zero h1)
      have e2 := Int.natAbs_dvd_natAbs.2 (Int.dvd_of_emod_eq_zero h2)
      exact Int.emod_eq_zero_of_dvd (Int.ofNat_dvd_right.2 (Nat.dvd_gcd e1 e2))
end Go.Proofs.YticohjhohbkmaaaDoor

/- Chapter 01: the laws NumGcds, NumRoots, NumTexts, NumParses, by walking their text. -/
import Derived.Test.YticohjhohbkmaaaDoorNumLawA
namespace Go.Proofs.YticohjhohbkmaaaDoor
open Go Go.RowKit Go.ChangeShapes

theorem emod_of_tmod {a d : Int} (h : a.tmod d = 0) : a % d = 0 := Int.emod_eq_zero_of_dvd (Int.dvd_of_tmod_eq_zero h)
theorem tmod_of_emod {a d : Int} (h : a % d = 0) : a.tmod d = 0 := Int.tmod_eq_zero_of_dvd (Int.dvd_of_emod_eq_zero h)
set_option maxRecDepth 100000 in
set_option maxHeartbeats 2000000 in
theorem gcds_law (a b d a' b' d' : Int) (w : World) (hT : TabP w) (ha : Rep.int.R w (Lt w) a' (Value.int .i64 a).cells.toList) (_ : True) (hb : Rep.int.R w (Lt w) b' (Value.int .i64 b).cells.toList) (_ : True) (hd : Rep.int.R w (Lt w) d' (Value.int .i64 d).cells.toList) (_ : True) :
    Calls Tryd.prog 5 #[.int .i64 a, .int .i64 b, .int .i64 d] w (Ret (.bool true) w) := by
  obtain ⟨rfl, a0, a1⟩ := i64_inv ha
  obtain ⟨rfl, b0, b1⟩ := i64_inv hb
  obtain ⟨rfl, d0, d1⟩ := i64_inv hd
  clear ha hb hd
  have HT := Lib.hid hT
  have c1 := Lib.hid (fun w => gcd_any a b w a0 a1 b0 b1)
  have c2 := Lib.hid (fun w => refGcd_any a b w a0 a1 b0 b1)
  have hz : gcdF a b = 0 → (a = 0 ∨ a = -9223372036854775808) ∧ (b = 0 ∨ b = -9223372036854775808) := by
    intro h
    unfold gcdF at h
    split at h
    · rename_i hg
      have e1 := Nat.gcd_dvd_left a.natAbs b.natAbs
      have e2 := Nat.gcd_dvd_right a.natAbs b.natAbs
      rw [hg] at e1 e2
      obtain ⟨k1, e1⟩ := e1
      obtain ⟨k2, e2⟩ := e2
      omega
    · have : Nat.gcd a.natAbs b.natAbs = 0 := by omega
      rw [Nat.gcd_eq_zero_iff] at this
      omega
  have hf := gcd_facts (a := a) (b := b)
  clear hT
  generalize gcdF a b = g at *
  have s1 : (g != g) = false := ine_f rfl
  by_cases hg : g = 0
  · obtain ⟨h1, h2⟩ := hz hg
    have s2 : (g == 0) = true := ieq_t hg
    clear hz hf hg
    rcases h1 with h1 | h1 <;> rcases h2 with h2 | h2
    all_goals
      first
        | have t1 : (a == 0) = true := ieq_t h1
        | (have t1 : (a == 0) = false := ieq_f (by omega)
           have t2 : (a == -9223372036854775808) = true := ieq_t h1)
      first
        | have t3 : (b == 0) = true := ieq_t h2
        | (have t3 : (b == 0) = false := ieq_f (by omega)
           have t4 : (b == -9223372036854775808) = true := ieq_t h2)
      clear h1 h2
      go_enter Tryd.func5, Tryd.ntmps5
      go_wp2_with fail
      refine (c1.out _).mono ?_
      rintro e w1 ⟨rfl, q1⟩
      go_wp2_with fail
      refine (c2.out _).mono ?_
      rintro e w2 ⟨rfl, hq⟩
      have b2 := (q1.trans hq).below w.heap.size
      have HT2 := Lib.hid (HT.out.qt (q1.trans hq))
      clear hq q1
      go_wp2_with fail
      refine (alive_any _ HT2.out).mono ?_
      rintro e w3 ⟨rfl, hb⟩
      go_wp2_with fail
      go_ret
      exact ⟨rfl, bstep b2 b2.size hb⟩
  · obtain ⟨f1, f2, f3, f4⟩ := hf hg
    have s2 : (g == 0) = false := ieq_f hg
    have t1 : a.tmod g = 0 := tmod_of_emod f2
    have t2 : b.tmod g = 0 := tmod_of_emod f3
    have hcs : d = 0 ∨ (d ≠ 0 ∧ a.tmod d ≠ 0) ∨ (d ≠ 0 ∧ a.tmod d = 0 ∧ b.tmod d ≠ 0) ∨ (d ≠ 0 ∧ a.tmod d = 0 ∧ b.tmod d = 0 ∧ g.tmod d = 0) := by
      by_cases h0 : d = 0
      · exact .inl h0
      by_cases h1 : a.tmod d = 0
      · by_cases h2 : b.tmod d = 0
        · exact .inr (.inr (.inr ⟨h0, h1, h2, tmod_of_emod (f4 d h0 (emod_of_tmod h1) (emod_of_tmod h2))⟩))
        · exact .inr (.inr (.inl ⟨h0, h1, h2⟩))
      · exact .inr (.inl ⟨h0, h1⟩)
    clear hz hf f2 f3 f4 hg
    rcases hcs with h0 | ⟨h0, h1⟩ | ⟨h0, h1, h2⟩ | ⟨h0, h1, h2, h3⟩
    all_goals
      first
        | have u0 : (d == 0) = true := ieq_t h0
        | have u0 : (d == 0) = false := ieq_f h0
      try
        first
          | have u1 : (a.tmod d != 0) = true := ine_t h1
          | have u1 : (a.tmod d != 0) = false := ine_f h1
      try
        first
          | have u2 : (b.tmod d != 0) = true := ine_t h2
          | have u2 : (b.tmod d != 0) = false := ine_f h2
      go_enter Tryd.func5, Tryd.ntmps5
      go_wp2_with fail
      refine (c1.out _).mono ?_
      rintro e w1 ⟨rfl, q1⟩
      go_wp2_with fail
      refine (c2.out _).mono ?_
      rintro e w2 ⟨rfl, hq⟩
      have b2 := (q1.trans hq).below w.heap.size
      have HT2 := Lib.hid (HT.out.qt (q1.trans hq))
      clear hq q1
      go_wp2_with fail
      refine (alive_any _ HT2.out).mono ?_
      rintro e w3 ⟨rfl, hb⟩
      go_wp2_with fail
      go_ret
      exact ⟨rfl, bstep b2 b2.size hb⟩
end Go.Proofs.YticohjhohbkmaaaDoor

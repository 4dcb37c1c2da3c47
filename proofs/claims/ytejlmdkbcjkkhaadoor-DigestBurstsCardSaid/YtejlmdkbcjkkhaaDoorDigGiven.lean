/- Chapter 06: given, Verify, of the program and of the reference, Same and light, by walking their text. -/
import Derived.Test.YtejlmdkbcjkkhaaDoorDigProof
namespace Go.Proofs.YtejlmdkbcjkkhaaDoor
open Go Go.RowKit Go.ChangeShapes

/-- what an element and a path give; the path from behind. -/
def givenR : List Int → ByteArray → Nat → Nat → Int × Bool
  | [], s, _, n => if n = 1 then (leafL s, true) else (0, false)
  | x :: r, s, i, n => if n = 1 then (leafL s, false) else if i < splitN n then (pairL (givenR r s i (splitN n)).1 x, (givenR r s i (splitN n)).2) else (pairL x (givenR r s (i - splitN n) (n - splitN n)).1, (givenR r s (i - splitN n) (n - splitN n)).2)
def givenL (p : List Int) (s : ByteArray) (i n : Nat) : Int × Bool := givenR p.reverse s i n
theorem givenL_one (p : List Int) (s : ByteArray) (i : Nat) : givenL p s i 1 = (leafL s, p.isEmpty) := by
  unfold givenL
  rcases h : p.reverse with _ | ⟨x, r⟩
  · have : p = [] := by simpa using h
    subst this; rfl
  · have : p ≠ [] := by rintro rfl; simp at h
    rw [givenR, if_pos rfl]
    cases p
    · contradiction
    · rfl
theorem givenL_nil (s : ByteArray) (i n : Nat) (h : n ≠ 1) : givenL [] s i n = (0, false) := by
  unfold givenL; rw [List.reverse_nil, givenR, if_neg h]
theorem givenL_lo {p q : List Int} {x : Int} {s : ByteArray} {i n : Nat} (hp : p = q ++ [x]) (h : n ≠ 1) (hi : i < splitN n) : givenL p s i n = (pairL (givenL q s i (splitN n)).1 x, (givenL q s i (splitN n)).2) := by
  rw [hp]; unfold givenL; rw [List.reverse_append]; show givenR (x :: q.reverse) s i n = _; rw [givenR, if_neg h, if_pos hi]
theorem givenL_hi {p q : List Int} {x : Int} {s : ByteArray} {i n : Nat} (hp : p = q ++ [x]) (h : n ≠ 1) (hi : ¬ i < splitN n) : givenL p s i n = (pairL x (givenL q s (i - splitN n) (n - splitN n)).1, (givenL q s (i - splitN n) (n - splitN n)).2) := by
  rw [hp]; unfold givenL; rw [List.reverse_append]; show givenR (x :: q.reverse) s i n = _; rw [givenR, if_neg h, if_neg hi]
theorem givenL_bd (p : List Int) (s : ByteArray) (i n : Nat) : 0 ≤ (givenL p s i n).1 ∧ (givenL p s i n).1 ≤ 18446744073709551615 := by
  unfold givenL
  cases p.reverse with
  | nil => rw [givenR]; split; exact hashL_bd _; exact ⟨Int.le_refl _, by show (0 : Int) ≤ _; decide⟩
  | cons x r => rw [givenR]; split; exact hashL_bd _; split; exact pairL_bd _ _; exact pairL_bd _ _
theorem ret_ub {a c : Int} {b d : Bool} (h1 : a = c) (h2 : b = d) : Ending.returned (.tuple #[.int .u64 a, .bool b]) = .returned (.tuple #[.int .u64 c, .bool d]) := by rw [h1, h2]
theorem len_dec {α : Type} (p : List α) : decide ((p.length : Int) = 0) = p.isEmpty := by cases p <;> simp; omega
theorem len_beq {α : Type} (p : List α) : ((p.length : Int) == 0) = p.isEmpty := by cases p <;> simp; omega
theorem str1 (w : World) (s : ByteArray) (hs : s.size ≤ maxLen) : Rep.str.slice.R (w.alloc (.cells #[.string s] 9)) (Lt (w.alloc (.cells #[.string s] 9))) [s] [.slice (some ⟨w.heap.size, 0, none⟩) 1 1] :=
  ⟨_, _, rfl, Nat.le_refl _, by unfold maxLen; omega, fun k hk => by
    obtain rfl : k = 0 := by simp at hk; exact hk
    exact ⟨w.heap.size, 0, _, rfl, by unfold Lt; simp, ⟨rfl, hs⟩, fun j hj => by
      obtain rfl : j = 0 := by have : Rep.str.size = 1 := rfl; omega
      simp⟩⟩

set_option maxHeartbeats 1000000 in
theorem given_any (m : Nat) : ∀ (p : List Int) (v : Value) (s : ByteArray) (i n : Nat) (w : World), p.length = m → n ≤ 9223372036854775807 → Rep.u64.slice.R w (Lt w) p [v] → s.size ≤ 1000000000 → i < n →
    Calls Tryd.prog 30 #[.string s, .int .i64 i, .int .i64 n, v] w (Ret (.tuple #[.int .u64 (givenL p s i n).1, .bool (givenL p s i n).2]) w) := by
  induction m with
  | zero =>
    intro p v s i n w hp hn hl hs hi
    obtain rfl : p = [] := List.eq_nil_of_length_eq_zero hp
    obtain ⟨A, c, rfl, hm, hcap⟩ := slice_inv hl
    by_cases h1 : n = 1
    · subst h1
      have HE := Lib.hid (givenL_one [] s i)
      go_enter Tryd.func30, Tryd.ntmps30
      go_wp2_with fail
      refine (root_any 1 [s] _ _ (Nat.le_refl _) (str1 _ s (by unfold maxLen; omega)) (by intro x hx; rw [List.mem_singleton.1 hx]; exact hs)).mono ?_
      rintro e w1 ⟨rfl, hb1⟩
      go_wp2_with fail
      go_ret2
      exact ⟨ret_ub (by rw [HE.out]; rfl) (by rw [HE.out]; rfl), bstep ((Below.refl _ _).alloc (Nat.le_refl _) _) (by simp) hb1⟩
    · have HE := Lib.hid (givenL_nil s i n h1)
      have e1 : ((n : Int) == 1) = false := ieq_f (by omega)
      go_enter Tryd.func30, Tryd.ntmps30
      go_wp2_with fail
      go_ret2
      exact ⟨ret_ub (by rw [HE.out]) (by rw [HE.out]), Below.refl _ _⟩
  | succ m ih =>
    intro p v s i n w hp hn hl hs hi
    obtain ⟨A, c, rfl, hm, hcap⟩ := slice_inv hl
    have e0 : ((p.length : Int) == 0) = false := ieq_f (by omega)
    by_cases h1 : n = 1
    · subst h1
      have HE := Lib.hid (givenL_one p s i)
      have e2 : Hid (p.isEmpty = false) := by show p.isEmpty = false; rw [← len_beq]; exact e0
      go_enter Tryd.func30, Tryd.ntmps30
      go_wp2_with fail
      refine (root_any 1 [s] _ _ (Nat.le_refl _) (str1 _ s (by unfold maxLen; omega)) (by intro x hx; rw [List.mem_singleton.1 hx]; exact hs)).mono ?_
      rintro e w1 ⟨rfl, hb1⟩
      go_wp2_with fail
      go_ret2
      exact ⟨ret_ub (by rw [HE.out]; rfl) (by rw [HE.out]; exact e2.out.symm), bstep ((Below.refl _ _).alloc (Nat.le_refl _) _) (by simp) hb1⟩
    have e1 : ((n : Int) == 1) = false := ieq_f (by omega)
    obtain ⟨b, off, x, rfl, hx, -, hc, hx0, hx1⟩ := u64s_at hl (show p.length - 1 < p.length by omega)
    have hq : p = p.take (p.length - 1) ++ [x] := by
      have := take_one hx.out
      rw [← this, List.take_of_length_le (by omega)]
    have hql : (p.take (p.length - 1)).length = m := by rw [List.length_take]; omega
    have hr := Rep.slice_take hl (k := p.length - 1) (by omega)
    have q1 := run_take (P := Tryd.prog) Tryd.underlying33 Tryd.sizeOf26 (some ⟨b, off, none⟩) p.length c (p.length - 1) (by omega)
    have ee : (((p.length - 1 : Nat)) : Int) = (p.length : Int) - 1 := by omega
    rw [ee] at q1
    have hbs := splitN_bd (n := n) (by omega) hn
    have hsp := Lib.hid (fun W => split_any n W (by omega) hn)
    have hpp : 0 < p.length := by omega
    have hg := givenL_bd (p.take (p.length - 1)) s
    have g1 : (0 : Int) ≤ (p.length : Int) - 1 := by omega
    have g2 : (p.length : Int) - 1 < (p.length : Int) := by omega
    have HP := Lib.hid hp
    clear hp
    by_cases hk : i < splitN n
    · have HE := Lib.hid (givenL_lo (s := s) hq h1 hk)
      generalize splitN n = k at *
      have ih1 := Lib.hid (fun W h => ih (p.take (p.length - 1)) (.slice (some ⟨b, off, none⟩) (p.length - 1) c) s i k W hql (by omega) h hs (by omega))
      obtain ⟨y0, y1⟩ := hg i k
      clear hg ih hql hl ee
      have hq' := Lib.hid hq
      clear hq
      generalize (givenL (p.take (p.length - 1)) s i k) = z at *
      obtain ⟨z1, z2⟩ := z
      simp only at y0 y1
      go_enter Tryd.func30, Tryd.ntmps30
      go_wp2_with fail
      have g3 : IntKind.i64.wrap ((p.length : Int) - 1) = (p.length : Int) - 1 := IntWalk.i64_in _ (by omega)
      have g4 : ((p.length : Int) - 1).toNat = p.length - 1 := by omega
      go_quiet ((go_at_call 27; exact Calls.quiet_of_same ((hsp.out _).mono fun _ _ h => ⟨h.1, h.2.symm⟩)))
      clear g3 g4
      go_wp2_with fail
      refine (ih1.out _ (Rep.below hr (below_drewN (Below.refl _ _) _))).mono ?_
      rintro e w1 ⟨rfl, hb1⟩
      go_wp2_with fail
      refine (pair_any z1 x _ y0 y1 hx0 hx1).mono ?_
      rintro e w2 ⟨rfl, hb2⟩
      go_wp2_with fail
      go_ret2
      exact ⟨ret_ub (by rw [HE.out]) (by rw [HE.out]), bstep (bstep (below_drewN (Below.refl _ _) _) (Nat.le_refl _) hb1) (by have := hb1.size; simpa using this) hb2⟩
    · have HE := Lib.hid (givenL_hi (s := s) hq h1 hk)
      generalize splitN n = k at *
      have ei : ((i - k : Nat) : Int) = (i : Int) - (k : Int) := by omega
      have en : ((n - k : Nat) : Int) = (n : Int) - (k : Int) := by omega
      have ih1 := Lib.hid (fun W h => ih (p.take (p.length - 1)) (.slice (some ⟨b, off, none⟩) (p.length - 1) c) s (i - k) (n - k) W hql (by omega) h hs (by omega))
      rw [ei, en] at ih1
      have hki : (k : Int) ≤ (i : Int) := by omega
      obtain ⟨y0, y1⟩ := hg (i - k) (n - k)
      clear hg ih hql hl ee ei en
      have hq' := Lib.hid hq
      clear hq
      generalize (givenL (p.take (p.length - 1)) s (i - k) (n - k)) = z at *
      obtain ⟨z1, z2⟩ := z
      simp only at y0 y1
      go_enter Tryd.func30, Tryd.ntmps30
      go_wp2_with fail
      have g3 : IntKind.i64.wrap ((p.length : Int) - 1) = (p.length : Int) - 1 := IntWalk.i64_in _ (by omega)
      have g4 : ((p.length : Int) - 1).toNat = p.length - 1 := by omega
      go_quiet ((go_at_call 27; exact Calls.quiet_of_same ((hsp.out _).mono fun _ _ h => ⟨h.1, h.2.symm⟩)))
      clear g3 g4
      go_wp2_with fail
      refine (ih1.out _ (Rep.below hr (below_drewN (Below.refl _ _) _))).mono ?_
      rintro e w1 ⟨rfl, hb1⟩
      go_wp2_with fail
      refine (pair_any x z1 _ hx0 hx1 y0 y1).mono ?_
      rintro e w2 ⟨rfl, hb2⟩
      go_wp2_with fail
      go_ret2
      exact ⟨ret_ub (by rw [HE.out]) (by rw [HE.out]), bstep (bstep (below_drewN (Below.refl _ _) _) (Nat.le_refl _) hb1) (by have := hb1.size; simpa using this) hb2⟩

set_option maxHeartbeats 1000000 in
theorem refGiven_any (m : Nat) : ∀ (p : List Int) (v : Value) (s : ByteArray) (i n : Nat) (w : World), p.length = m → n ≤ 9223372036854775807 → Rep.u64.slice.R w (Lt w) p [v] → s.size ≤ 1000000000 → i < n →
    Calls Tryd.prog 31 #[.string s, .int .i64 i, .int .i64 n, v] w (Ret (.tuple #[.int .u64 (givenL p s i n).1, .bool (givenL p s i n).2]) w) := by
  induction m with
  | zero =>
    intro p v s i n w hp hn hl hs hi
    obtain rfl : p = [] := List.eq_nil_of_length_eq_zero hp
    obtain ⟨A, c, rfl, hm, hcap⟩ := slice_inv hl
    by_cases h1 : n = 1
    · subst h1
      have HE := Lib.hid (givenL_one [] s i)
      go_enter Tryd.func31, Tryd.ntmps31
      have hs' : s.size ≤ 1000000000 := hs
      go_wp2_with fail
      refine (leaf_any s _ hs).mono ?_
      rintro e w1 ⟨rfl, rfl⟩
      go_wp2_with fail
      go_ret2
      exact ⟨ret_ub (by rw [HE.out]) (by rw [HE.out]; rfl), Below.refl _ _⟩
    · have HE := Lib.hid (givenL_nil s i n h1)
      have e1 : ((n : Int) == 1) = false := ieq_f (by omega)
      go_enter Tryd.func31, Tryd.ntmps31
      go_wp2_with fail
      go_ret2
      exact ⟨ret_ub (by rw [HE.out]) (by rw [HE.out]), Below.refl _ _⟩
  | succ m ih =>
    intro p v s i n w hp hn hl hs hi
    obtain ⟨A, c, rfl, hm, hcap⟩ := slice_inv hl
    have e0 : ((p.length : Int) == 0) = false := ieq_f (by omega)
    by_cases h1 : n = 1
    · subst h1
      have HE := Lib.hid (givenL_one p s i)
      have e2 : Hid (p.isEmpty = false) := by show p.isEmpty = false; rw [← len_beq]; exact e0
      go_enter Tryd.func31, Tryd.ntmps31
      have hs' : s.size ≤ 1000000000 := hs
      go_wp2_with fail
      refine (leaf_any s _ hs).mono ?_
      rintro e w1 ⟨rfl, rfl⟩
      go_wp2_with fail
      go_ret2
      exact ⟨ret_ub (by rw [HE.out]) (by rw [HE.out]; exact e2.out.symm), Below.refl _ _⟩
    have e1 : ((n : Int) == 1) = false := ieq_f (by omega)
    obtain ⟨b, off, x, rfl, hx, -, hc, hx0, hx1⟩ := u64s_at hl (show p.length - 1 < p.length by omega)
    have hq : p = p.take (p.length - 1) ++ [x] := by
      have := take_one hx.out
      rw [← this, List.take_of_length_le (by omega)]
    have hql : (p.take (p.length - 1)).length = m := by rw [List.length_take]; omega
    have hr := Rep.slice_take hl (k := p.length - 1) (by omega)
    have q1 := run_take (P := Tryd.prog) Tryd.underlying33 Tryd.sizeOf26 (some ⟨b, off, none⟩) p.length c (p.length - 1) (by omega)
    have ee : (((p.length - 1 : Nat)) : Int) = (p.length : Int) - 1 := by omega
    rw [ee] at q1
    have hbs := splitN_bd (n := n) (by omega) hn
    have hsp := Lib.hid (fun W => left_any n W (by omega) hn)
    have hpp : 0 < p.length := by omega
    have hg := givenL_bd (p.take (p.length - 1)) s
    have g1 : (0 : Int) ≤ (p.length : Int) - 1 := by omega
    have g2 : (p.length : Int) - 1 < (p.length : Int) := by omega
    have HP := Lib.hid hp
    clear hp
    by_cases hk : i < splitN n
    · have HE := Lib.hid (givenL_lo (s := s) hq h1 hk)
      generalize splitN n = k at *
      have ih1 := Lib.hid (fun W h => ih (p.take (p.length - 1)) (.slice (some ⟨b, off, none⟩) (p.length - 1) c) s i k W hql (by omega) h hs (by omega))
      obtain ⟨y0, y1⟩ := hg i k
      clear hg ih hql hl ee
      have hq' := Lib.hid hq
      clear hq
      generalize (givenL (p.take (p.length - 1)) s i k) = z at *
      obtain ⟨z1, z2⟩ := z
      simp only at y0 y1
      go_enter Tryd.func31, Tryd.ntmps31
      go_wp2_with fail
      refine (hsp.out _).mono ?_
      rintro e w' ⟨rfl, rfl⟩
      go_wp2_with fail
      refine (ih1.out _ hr).mono ?_
      rintro e w1 ⟨rfl, hb1⟩
      go_wp2_with fail
      refine (refPair_any z1 x _ y0 y1 hx0 hx1).mono ?_
      rintro e w2 ⟨rfl, hb2⟩
      go_wp2_with fail
      go_ret2
      exact ⟨ret_ub (by rw [HE.out]) (by rw [HE.out]), bstep hb1 hb1.size hb2⟩
    · have HE := Lib.hid (givenL_hi (s := s) hq h1 hk)
      generalize splitN n = k at *
      have ei : ((i - k : Nat) : Int) = (i : Int) - (k : Int) := by omega
      have en : ((n - k : Nat) : Int) = (n : Int) - (k : Int) := by omega
      have ih1 := Lib.hid (fun W h => ih (p.take (p.length - 1)) (.slice (some ⟨b, off, none⟩) (p.length - 1) c) s (i - k) (n - k) W hql (by omega) h hs (by omega))
      rw [ei, en] at ih1
      have hki : (k : Int) ≤ (i : Int) := by omega
      obtain ⟨y0, y1⟩ := hg (i - k) (n - k)
      clear hg ih hql hl ee ei en
      have hq' := Lib.hid hq
      clear hq
      generalize (givenL (p.take (p.length - 1)) s (i - k) (n - k)) = z at *
      obtain ⟨z1, z2⟩ := z
      simp only at y0 y1
      go_enter Tryd.func31, Tryd.ntmps31
      go_wp2_with fail
      refine (hsp.out _).mono ?_
      rintro e w' ⟨rfl, rfl⟩
      go_wp2_with fail
      refine (ih1.out _ hr).mono ?_
      rintro e w1 ⟨rfl, hb1⟩
      go_wp2_with fail
      refine (refPair_any x z1 _ hx0 hx1 y0 y1).mono ?_
      rintro e w2 ⟨rfl, hb2⟩
      go_wp2_with fail
      go_ret2
      exact ⟨ret_ub (by rw [HE.out]) (by rw [HE.out]), bstep hb1 hb1.size hb2⟩
end Go.Proofs.YtejlmdkbcjkkhaaDoor

/- Chapter 06: Proof, of the program and of the reference, by walking their text. -/
import Derived.Test.YtejlmdkbcjkkhaaDoorDigRoot
namespace Go.Proofs.YtejlmdkbcjkkhaaDoor
open Go Go.RowKit Go.ChangeShapes

def pathN : Nat → List ByteArray → Nat → List Int
  | 0, _, _ => []
  | n + 1, l, i => if l.length ≤ 1 then [] else if i < splitN l.length then pathN n (l.take (splitN l.length)) i ++ [rootL (l.drop (splitN l.length))] else pathN n (l.drop (splitN l.length)) (i - splitN l.length) ++ [rootL (l.take (splitN l.length))]
def pathL (l : List ByteArray) (i : Nat) : List Int := pathN l.length l i
theorem pathN_fuel : ∀ (n m : Nat) (l : List ByteArray) (i : Nat), l.length ≤ n → l.length ≤ m → l.length ≤ 9223372036854775807 → pathN n l i = pathN m l i
  | 0, 0, _, _, _, _, _ => rfl
  | 0, m + 1, l, i, h, _, _ => by rw [pathN, pathN, if_pos (by omega)]
  | n + 1, 0, l, i, _, h, _ => by rw [pathN, pathN, if_pos (by omega)]
  | n + 1, m + 1, l, i, h1, h2, h3 => by
    rw [pathN, pathN]
    split
    · rfl
    · have hs := splitN_bd (n := l.length) (by omega) h3
      rw [pathN_fuel n m _ i (by rw [List.length_take]; omega) (by rw [List.length_take]; omega) (by rw [List.length_take]; omega), pathN_fuel n m _ (i - splitN l.length) (by rw [List.length_drop]; omega) (by rw [List.length_drop]; omega) (by rw [List.length_drop]; omega)]
theorem pathL_one {l : List ByteArray} (i : Nat) (h : l.length = 1) : pathL l i = [] := by
  unfold pathL; rw [h, pathN, if_pos (by omega)]
theorem pathL_lo {l : List ByteArray} {i : Nat} (h1 : 2 ≤ l.length) (h3 : l.length ≤ 9223372036854775807) (hi : i < splitN l.length) : pathL l i = pathL (l.take (splitN l.length)) i ++ [rootL (l.drop (splitN l.length))] := by
  have hs := splitN_bd (n := l.length) (by omega) h3
  obtain ⟨n, hn⟩ : ∃ n, l.length = n + 1 := ⟨l.length - 1, by omega⟩
  conv => lhs; unfold pathL; rw [hn, pathN, if_neg (by omega), if_pos hi]
  unfold pathL
  rw [pathN_fuel n _ (l.take _) i (by rw [List.length_take]; omega) (Nat.le_refl _) (by rw [List.length_take]; omega)]
theorem pathL_hi {l : List ByteArray} {i : Nat} (h1 : 2 ≤ l.length) (h3 : l.length ≤ 9223372036854775807) (hi : ¬ i < splitN l.length) : pathL l i = pathL (l.drop (splitN l.length)) (i - splitN l.length) ++ [rootL (l.take (splitN l.length))] := by
  have hs := splitN_bd (n := l.length) (by omega) h3
  obtain ⟨n, hn⟩ : ∃ n, l.length = n + 1 := ⟨l.length - 1, by omega⟩
  conv => lhs; unfold pathL; rw [hn, pathN, if_neg (by omega), if_neg hi]
  unfold pathL
  rw [pathN_fuel n _ (l.drop _) _ (by rw [List.length_drop]; omega) (Nat.le_refl _) (by rw [List.length_drop]; omega)]
theorem pathL_bd (l : List ByteArray) (i : Nat) : (pathL l i).length ≤ l.length ∧ ∀ x ∈ pathL l i, 0 ≤ x ∧ x ≤ 18446744073709551615 := by
  have key : ∀ (n : Nat) (l : List ByteArray) (i : Nat), (pathN n l i).length ≤ n ∧ ∀ x ∈ pathN n l i, 0 ≤ x ∧ x ≤ 18446744073709551615 := by
    intro n
    induction n with
    | zero => intro l i; exact ⟨Nat.le_refl _, fun x hx => by cases hx⟩
    | succ n ih =>
      intro l i
      rw [pathN]
      split
      · exact ⟨by simp, fun x hx => by cases hx⟩
      · split
        · refine ⟨by have := (ih (l.take (splitN l.length)) i).1; simp; omega, fun x hx => ?_⟩
          rcases List.mem_append.1 hx with hx | hx
          · exact (ih _ _).2 x hx
          · rw [List.mem_singleton.1 hx]; exact rootL_bd _
        · refine ⟨by have := (ih (l.drop (splitN l.length)) (i - splitN l.length)).1; simp; omega, fun x hx => ?_⟩
          rcases List.mem_append.1 hx with hx | hx
          · exact (ih _ _).2 x hx
          · rw [List.mem_singleton.1 hx]; exact rootL_bd _
  exact key _ _ _
theorem u64_info : (Tryd.prog.info? 26).map (fun i => (i.zero, i.size, i.bytes)) = some (some (.int .u64 0), 1, 8) := by kernel_rfl
def PathRes (w : World) (p : List Int) (e : Ending) (w' : World) : Prop := ∃ v, e = .returned (.tuple #[v, .int .i64 0]) ∧ w'.ownsRow w.heap.size 26 1 v p.length (u64s p) ∧ Below w.heap.size w w' ∧ (p = [] → v = .slice none 0 0)
theorem path_step {w : World} {base : Nat} {v : Value} {p q : List Int} {x : Int} (hp : p = q ++ [x]) (h : w.ownsRow base 26 1 v (q.length + 1) (u64s q ++ [.int .u64 x])) : w.ownsRow base 26 1 v p.length (u64s p) := by
  rw [hp, u64s_snoc, List.length_append]; exact h

set_option maxHeartbeats 400000 in
theorem proof_out (l : List ByteArray) (v : Value) (i : Int) (w : World) (hl : Rep.str.slice.R w (Lt w) l [v]) (hi : i < 0 ∨ (l.length : Int) ≤ i) :
    Calls Tryd.prog 21 #[v, .int .i64 i] w fun e w' => e = .returned (.tuple #[.slice none 0 0, .int .i64 9]) ∧ w = w' := by
  obtain ⟨A, c, rfl, hm, hcap⟩ := slice_inv hl
  rcases Classical.em (i < 0) with h | h
  · go_enter Tryd.func21, Tryd.ntmps21
    go_wp2
    go_ret2
    exact ⟨rfl, by trivial⟩
  · have h2 : (l.length : Int) ≤ i := by omega
    clear hi
    go_enter Tryd.func21, Tryd.ntmps21
    go_wp2
    go_ret2
    exact ⟨rfl, by trivial⟩
set_option maxHeartbeats 1000000 in
theorem proof_any (n : Nat) : ∀ (l : List ByteArray) (v : Value) (i : Nat) (w : World), l.length ≤ n → n ≤ 1000000 → Rep.str.slice.R w (Lt w) l [v] → Sm l → i < l.length →
    Calls Tryd.prog 21 #[v, .int .i64 i] w (PathRes w (pathL l i)) := by
  induction n with
  | zero => intro l v i w hln _ hl hsm hi; omega
  | succ n ih =>
    intro l v i w hln hn hl hsm hi
    obtain ⟨A, c, rfl, hm, hcap⟩ := slice_inv hl
    obtain ⟨b, off, x, rfl, -, -, -, -⟩ := strs_at hl (show 0 < l.length by omega)
    have d1 : ¬ (i : Int) < 0 := by omega
    have d2 : ¬ (l.length : Int) ≤ i := by omega
    by_cases h1 : l.length = 1
    · have HE := Lib.hid (pathL_one i h1)
      have e1 : ((l.length : Int) == 1) = true := ieq_t (by omega)
      clear h1 ih
      go_enter Tryd.func21, Tryd.ntmps21
      go_wp2_with fail
      go_ret2
      exact ⟨_, rfl, by rw [HE.out]; exact World.ownsRow_nil _ _ _ _, Below.refl _ _, fun _ => rfl⟩
    have e1 : ((l.length : Int) == 1) = false := ieq_f (by omega)
    have hs := splitN_bd (n := l.length) (by omega) hm
    have hr1 := Rep.slice_take hl (k := splitN l.length) (by omega)
    have hr2 := Rep.slice_drop hl (k := splitN l.length) (by omega)
    rw [show splitN l.length * Rep.str.size = splitN l.length from Nat.mul_one _] at hr2
    have q1 := run_take (P := Tryd.prog) Tryd.underlying30 Tryd.sizeOf9 (some ⟨b, off, none⟩) l.length c (splitN l.length) (by omega)
    have q2 := run_drop (P := Tryd.prog) Tryd.underlying30 Tryd.sizeOf9 b off l.length c (splitN l.length) (by omega) (by omega)
    rw [Nat.mul_one] at q2
    obtain ⟨i0, hj, hz0, hz1, hz2⟩ := info_parts u64_info
    have hsp := Lib.hid (fun W => split_any l.length W (by omega) hm)
    have hl1 : (l.take (splitN l.length)).length = splitN l.length := by rw [List.length_take]; omega
    have hl2 : (l.drop (splitN l.length)).length = l.length - splitN l.length := by rw [List.length_drop]
    by_cases hk : i < splitN l.length
    · have HE := Lib.hid (pathL_lo (l := l) (by omega) hm hk)
      generalize splitN l.length = k at *
      have ih1 := Lib.hid (ih (l.take k) (.slice (some ⟨b, off, none⟩) k c) i w (by omega) (by omega) hr1 (hsm.take k) (by omega))
      have hpl := (pathL_bd (l.take k) i).1
      have HL2 := Lib.hid hl2
      rw [hl1] at hpl
      clear hl1 hl2 ih
      go_enter Tryd.func21, Tryd.ntmps21
      go_wp2_with fail
      refine (hsp.out _).mono ?_
      rintro e w' ⟨rfl, rfl⟩
      go_wp2_with fail
      refine ih1.out.mono ?_
      rintro e w1 ⟨p1, rfl, hown1, hb1, -⟩
      have hr3 := Rep.below hr2 hb1
      have hz1' := hb1.size
      go_wp2_with fail
      refine (root_any _ _ _ _ (Nat.le_refl _) hr3 (hsm.drop k)).mono ?_
      rintro e w2 ⟨rfl, hb2⟩
      have hown2 := own_below hown1 hb2
      have hw2 := bstep hb1 hb1.size hb2
      have hz2' := hw2.size
      clear hb2 hown1 hb1 hr3 hr1 hr2 hl
      go_wp2_with (at_builtin; refine wpList_append_own _ rfl _ _ 33 rfl w.heap.size 26 i0 (.int .u64 0) 1 8 Tryd.underlying33 hj hz0 hz1 hz2 rfl (by decide) _ _ _ rfl (World.ownsRow.alloc hown2 _) ⟨w2.heap.size, 0, none⟩ 1 1 [_] rfl rfl (new1_cells _ _ _) (one_oneCell rfl) (by unfold maxLen; omega) (by omega) (by simp; omega) ?_; intro v1 w3 hown3 hg3 _; have hb3 := below_own hw2 hz2' hown2 hg3; have hown4 := path_step HE.out hown3)
      go_ret2
      exact ⟨v1, rfl, hown4, hb3, fun h => by rw [HE.out] at h; simp at h⟩
    · have HE := Lib.hid (pathL_hi (l := l) (by omega) hm hk)
      generalize splitN l.length = k at *
      have hik : (k : Int) ≤ i := by omega
      have ee : ((i : Int) - (k : Int)) = ((i - k : Nat) : Int) := by omega
      have ih1 := Lib.hid (ih (l.drop k) (.slice (some ⟨b, off + k, none⟩) (l.length - k) (c - k)) (i - k) w (by omega) (by omega) hr2 (hsm.drop k) (by omega))
      rw [← ee] at ih1
      have hpl := (pathL_bd (l.drop k) (i - k)).1
      rw [hl2] at hpl
      have HL2 := Lib.hid hl1
      clear hl1 hl2 ih ee
      go_enter Tryd.func21, Tryd.ntmps21
      go_wp2_with fail
      refine (hsp.out _).mono ?_
      rintro e w' ⟨rfl, rfl⟩
      go_wp2_with fail
      refine ih1.out.mono ?_
      rintro e w1 ⟨p1, rfl, hown1, hb1, -⟩
      have hr3 := Rep.below hr1 hb1
      have hz1' := hb1.size
      go_wp2_with fail
      refine (root_any _ _ _ _ (Nat.le_refl _) hr3 (hsm.take k)).mono ?_
      rintro e w2 ⟨rfl, hb2⟩
      have hown2 := own_below hown1 hb2
      have hw2 := bstep hb1 hb1.size hb2
      have hz2' := hw2.size
      clear hb2 hown1 hb1 hr3 hr1 hr2 hl
      go_wp2_with (at_builtin; refine wpList_append_own _ rfl _ _ 33 rfl w.heap.size 26 i0 (.int .u64 0) 1 8 Tryd.underlying33 hj hz0 hz1 hz2 rfl (by decide) _ _ _ rfl (World.ownsRow.alloc hown2 _) ⟨w2.heap.size, 0, none⟩ 1 1 [_] rfl rfl (new1_cells _ _ _) (one_oneCell rfl) (by unfold maxLen; omega) (by omega) (by simp; omega) ?_; intro v1 w3 hown3 hg3 _; have hb3 := below_own hw2 hz2' hown2 hg3; have hown4 := path_step HE.out hown3)
      go_ret2
      exact ⟨v1, rfl, hown4, hb3, fun h => by rw [HE.out] at h; simp at h⟩

set_option maxHeartbeats 400000 in
theorem refProof_out (l : List ByteArray) (v : Value) (i : Int) (w : World) (hl : Rep.str.slice.R w (Lt w) l [v]) (hi : i < 0 ∨ (l.length : Int) ≤ i) :
    Calls Tryd.prog 22 #[v, .int .i64 i] w fun e w' => e = .returned (.tuple #[.slice none 0 0, .int .i64 9]) ∧ w = w' := by
  obtain ⟨A, c, rfl, hm, hcap⟩ := slice_inv hl
  rcases Classical.em (i < 0) with h | h
  · go_enter Tryd.func22, Tryd.ntmps22
    go_wp2
    go_ret2
    exact ⟨rfl, by trivial⟩
  · have h2 : (l.length : Int) ≤ i := by omega
    clear hi
    go_enter Tryd.func22, Tryd.ntmps22
    go_wp2
    go_ret2
    exact ⟨rfl, by trivial⟩
set_option maxHeartbeats 1000000 in
theorem refProof_any (n : Nat) : ∀ (l : List ByteArray) (v : Value) (i : Nat) (w : World), l.length ≤ n → n ≤ 1000000 → Rep.str.slice.R w (Lt w) l [v] → Sm l → i < l.length →
    Calls Tryd.prog 22 #[v, .int .i64 i] w (PathRes w (pathL l i)) := by
  induction n with
  | zero => intro l v i w hln _ hl hsm hi; omega
  | succ n ih =>
    intro l v i w hln hn hl hsm hi
    obtain ⟨A, c, rfl, hm, hcap⟩ := slice_inv hl
    obtain ⟨b, off, x, rfl, -, -, -, -⟩ := strs_at hl (show 0 < l.length by omega)
    have d1 : ¬ (i : Int) < 0 := by omega
    have d2 : ¬ (l.length : Int) ≤ i := by omega
    by_cases h1 : l.length = 1
    · have HE := Lib.hid (pathL_one i h1)
      have e1 : ((l.length : Int) == 1) = true := ieq_t (by omega)
      clear h1 ih
      go_enter Tryd.func22, Tryd.ntmps22
      go_wp2_with fail
      go_ret2
      exact ⟨_, rfl, by rw [HE.out]; exact World.ownsRow_nil _ _ _ _, Below.refl _ _, fun _ => rfl⟩
    have e1 : ((l.length : Int) == 1) = false := ieq_f (by omega)
    have hs := splitN_bd (n := l.length) (by omega) hm
    have hr1 := Rep.slice_take hl (k := splitN l.length) (by omega)
    have hr2 := Rep.slice_drop hl (k := splitN l.length) (by omega)
    rw [show splitN l.length * Rep.str.size = splitN l.length from Nat.mul_one _] at hr2
    have q1 := run_take (P := Tryd.prog) Tryd.underlying30 Tryd.sizeOf9 (some ⟨b, off, none⟩) l.length c (splitN l.length) (by omega)
    have q2 := run_drop (P := Tryd.prog) Tryd.underlying30 Tryd.sizeOf9 b off l.length c (splitN l.length) (by omega) (by omega)
    rw [Nat.mul_one] at q2
    obtain ⟨i0, hj, hz0, hz1, hz2⟩ := info_parts u64_info
    have hsp := Lib.hid (fun W => left_any l.length W (by omega) hm)
    have hl1 : (l.take (splitN l.length)).length = splitN l.length := by rw [List.length_take]; omega
    have hl2 : (l.drop (splitN l.length)).length = l.length - splitN l.length := by rw [List.length_drop]
    by_cases hk : i < splitN l.length
    · have HE := Lib.hid (pathL_lo (l := l) (by omega) hm hk)
      generalize splitN l.length = k at *
      have ih1 := Lib.hid (ih (l.take k) (.slice (some ⟨b, off, none⟩) k c) i w (by omega) (by omega) hr1 (hsm.take k) (by omega))
      have hpl := (pathL_bd (l.take k) i).1
      have HL2 := Lib.hid hl2
      rw [hl1] at hpl
      clear hl1 hl2 ih
      go_enter Tryd.func22, Tryd.ntmps22
      go_wp2_with fail
      refine (hsp.out _).mono ?_
      rintro e w' ⟨rfl, rfl⟩
      go_wp2_with fail
      refine ih1.out.mono ?_
      rintro e w1 ⟨p1, rfl, hown1, hb1, -⟩
      have hr3 := Rep.below hr2 hb1
      have hz1' := hb1.size
      go_wp2_with fail
      refine (refRoot_any _ _ _ _ (Nat.le_refl _) hr3 (hsm.drop k)).mono ?_
      rintro e w2 ⟨rfl, hb2⟩
      have hown2 := own_below hown1 hb2
      have hw2 := bstep hb1 hb1.size hb2
      have hz2' := hw2.size
      clear hb2 hown1 hb1 hr3 hr1 hr2 hl
      go_wp2_with (at_builtin; refine wpList_append_own _ rfl _ _ 33 rfl w.heap.size 26 i0 (.int .u64 0) 1 8 Tryd.underlying33 hj hz0 hz1 hz2 rfl (by decide) _ _ _ rfl (World.ownsRow.alloc hown2 _) ⟨w2.heap.size, 0, none⟩ 1 1 [_] rfl rfl (new1_cells _ _ _) (one_oneCell rfl) (by unfold maxLen; omega) (by omega) (by simp; omega) ?_; intro v1 w3 hown3 hg3 _; have hb3 := below_own hw2 hz2' hown2 hg3; have hown4 := path_step HE.out hown3)
      go_ret2
      exact ⟨v1, rfl, hown4, hb3, fun h => by rw [HE.out] at h; simp at h⟩
    · have HE := Lib.hid (pathL_hi (l := l) (by omega) hm hk)
      generalize splitN l.length = k at *
      have hik : (k : Int) ≤ i := by omega
      have ee : ((i : Int) - (k : Int)) = ((i - k : Nat) : Int) := by omega
      have ih1 := Lib.hid (ih (l.drop k) (.slice (some ⟨b, off + k, none⟩) (l.length - k) (c - k)) (i - k) w (by omega) (by omega) hr2 (hsm.drop k) (by omega))
      rw [← ee] at ih1
      have hpl := (pathL_bd (l.drop k) (i - k)).1
      rw [hl2] at hpl
      have HL2 := Lib.hid hl1
      clear hl1 hl2 ih ee
      go_enter Tryd.func22, Tryd.ntmps22
      go_wp2_with fail
      refine (hsp.out _).mono ?_
      rintro e w' ⟨rfl, rfl⟩
      go_wp2_with fail
      refine ih1.out.mono ?_
      rintro e w1 ⟨p1, rfl, hown1, hb1, -⟩
      have hr3 := Rep.below hr1 hb1
      have hz1' := hb1.size
      go_wp2_with fail
      refine (refRoot_any _ _ _ _ (Nat.le_refl _) hr3 (hsm.take k)).mono ?_
      rintro e w2 ⟨rfl, hb2⟩
      have hown2 := own_below hown1 hb2
      have hw2 := bstep hb1 hb1.size hb2
      have hz2' := hw2.size
      clear hb2 hown1 hb1 hr3 hr1 hr2 hl
      go_wp2_with (at_builtin; refine wpList_append_own _ rfl _ _ 33 rfl w.heap.size 26 i0 (.int .u64 0) 1 8 Tryd.underlying33 hj hz0 hz1 hz2 rfl (by decide) _ _ _ rfl (World.ownsRow.alloc hown2 _) ⟨w2.heap.size, 0, none⟩ 1 1 [_] rfl rfl (new1_cells _ _ _) (one_oneCell rfl) (by unfold maxLen; omega) (by omega) (by simp; omega) ?_; intro v1 w3 hown3 hg3 _; have hb3 := below_own hw2 hz2' hown2 hg3; have hown4 := path_step HE.out hown3)
      go_ret2
      exact ⟨v1, rfl, hown4, hb3, fun h => by rw [HE.out] at h; simp at h⟩
end Go.Proofs.YtejlmdkbcjkkhaaDoor

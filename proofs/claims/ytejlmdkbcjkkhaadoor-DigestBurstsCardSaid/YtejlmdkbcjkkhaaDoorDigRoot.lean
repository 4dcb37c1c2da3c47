/- Chapter 06: Root, of the program and of the reference, by walking their text. -/
import Derived.Test.YtejlmdkbcjkkhaaDoorDigPairR
import Derived.Deep.RegionHeld3
namespace Go.Proofs.YtejlmdkbcjkkhaaDoor
open Go Go.RowKit Go.ChangeShapes

def bs (s : ByteArray) : List UInt8 := s.data.toList
def leafL (s : ByteArray) : Int := hashL (0 :: bs s)
def rootN : Nat → List ByteArray → Int
  | 0, _ => hashL []
  | n + 1, l => if l.length = 0 then hashL [] else if l.length = 1 then leafL (l.getD 0 .empty) else pairL (rootN n (l.take (splitN l.length))) (rootN n (l.drop (splitN l.length)))
def rootL (l : List ByteArray) : Int := rootN l.length l
theorem rootN_fuel : ∀ (n m : Nat) (l : List ByteArray), l.length ≤ n → l.length ≤ m → l.length ≤ 9223372036854775807 → rootN n l = rootN m l
  | 0, 0, _, _, _, _ => rfl
  | 0, m + 1, l, h, _, _ => by rw [rootN, rootN, if_pos (by omega)]
  | n + 1, 0, l, _, h, _ => by rw [rootN, rootN, if_pos (by omega)]
  | n + 1, m + 1, l, h1, h2, h3 => by
    rw [rootN, rootN]
    split
    · rfl
    · split
      · rfl
      · have hs := splitN_bd (n := l.length) (by omega) h3
        rw [rootN_fuel n m _ (by rw [List.length_take]; omega) (by rw [List.length_take]; omega) (by rw [List.length_take]; omega), rootN_fuel n m _ (by rw [List.length_drop]; omega) (by rw [List.length_drop]; omega) (by rw [List.length_drop]; omega)]
theorem rootL_nil : rootL [] = hashL [] := rfl
theorem rootL_one (s : ByteArray) : rootL [s] = leafL s := rfl
theorem rootL_pair {l : List ByteArray} (h1 : 2 ≤ l.length) (h3 : l.length ≤ 9223372036854775807) : rootL l = pairL (rootL (l.take (splitN l.length))) (rootL (l.drop (splitN l.length))) := by
  have hs := splitN_bd (n := l.length) (by omega) h3
  obtain ⟨n, hn⟩ : ∃ n, l.length = n + 1 := ⟨l.length - 1, by omega⟩
  conv => lhs; unfold rootL; rw [hn, rootN, if_neg (by omega), if_neg (by omega)]
  unfold rootL
  rw [rootN_fuel n _ (l.take _) (by rw [List.length_take]; omega) (Nat.le_refl _) (by rw [List.length_take]; omega), rootN_fuel n _ (l.drop _) (by rw [List.length_drop]; omega) (Nat.le_refl _) (by rw [List.length_drop]; omega)]
theorem u64_in {a : Int} : 0 ≤ IntKind.u64.wrap a ∧ IntKind.u64.wrap a ≤ 18446744073709551615 := by
  rw [IntKind.wrap_u64]; omega
theorem hashL_bd (l : List UInt8) : 0 ≤ hashL l ∧ hashL l ≤ 18446744073709551615 := by
  have key : ∀ (l : List UInt8) (r : Int), 0 ≤ r ∧ r ≤ 18446744073709551615 → 0 ≤ l.foldl hstep r ∧ l.foldl hstep r ≤ 18446744073709551615 := by
    intro l
    induction l with
    | nil => intro r h; exact h
    | cons b l ih => intro r h; exact ih _ u64_in
  exact key l _ (by decide)
theorem pairL_bd (a b : Int) : 0 ≤ pairL a b ∧ pairL a b ≤ 18446744073709551615 := hashL_bd _
theorem rootL_bd (l : List ByteArray) : 0 ≤ rootL l ∧ rootL l ≤ 18446744073709551615 := by
  have key : ∀ n l, 0 ≤ rootN n l ∧ rootN n l ≤ 18446744073709551615 := by
    intro n l
    cases n with
    | zero => exact hashL_bd _
    | succ n => rw [rootN]; split; exact hashL_bd _; split; exact hashL_bd _; exact pairL_bd _ _
  exact key _ _
/-- strings that are short enough. -/
def Sm (l : List ByteArray) : Prop := ∀ s ∈ l, s.size ≤ 1000000000
theorem Sm.take {l : List ByteArray} (h : Sm l) (k : Nat) : Sm (l.take k) := fun s hs => h s (List.mem_of_mem_take hs)
theorem Sm.drop {l : List ByteArray} (h : Sm l) (k : Nat) : Sm (l.drop k) := fun s hs => h s (List.mem_of_mem_drop hs)

theorem list_one {α : Type} {l : List α} {x : α} (h : l.length = 1) (hx : l[0]? = some x) : l = [x] := by
  match l, h with
  | [y], _ => simp at hx; rw [hx]
theorem hash0 : hashL ([] : List UInt8) = hashL (ByteArray.empty.data.toList) := rfl

set_option maxHeartbeats 400000 in
theorem root_any (n : Nat) : ∀ (l : List ByteArray) (v : Value) (w : World), l.length ≤ n → Rep.str.slice.R w (Lt w) l [v] → Sm l →
    Calls Tryd.prog 19 #[v] w (Ret (.int .u64 (rootL l)) w) := by
  induction n with
  | zero =>
    intro l v w hln hl hsm
    obtain rfl : l = [] := List.eq_nil_of_length_eq_zero (by omega)
    obtain ⟨A, c, rfl, hm, hcap⟩ := slice_inv hl
    go_enter Tryd.func19, Tryd.ntmps19
    go_wp2_with (go_at_call 14; refine (hash_any _ _ (by decide)).mono ?_; rintro e w1 ⟨rfl, rfl⟩)
    go_ret
    exact ⟨rfl, by first | exact Below.refl _ _ | trivial⟩
  | succ n ih =>
    intro l v w hln hl hsm
    obtain ⟨A, c, rfl, hm, hcap⟩ := slice_inv hl
    by_cases h0 : l.length = 0
    · obtain rfl : l = [] := List.eq_nil_of_length_eq_zero h0
      clear h0
      go_enter Tryd.func19, Tryd.ntmps19
      go_wp2_with (go_at_call 14; refine (hash_any _ _ (by decide)).mono ?_; rintro e w1 ⟨rfl, rfl⟩)
      go_ret
      exact ⟨rfl, by first | exact Below.refl _ _ | trivial⟩
    obtain ⟨b, off, x, rfl, hx0, -, c0, -⟩ := strs_at hl (show 0 < l.length by omega)
    by_cases h1 : l.length = 1
    · have hx : x.size ≤ 1000000000 := hsm x (List.mem_of_getElem? hx0.out)
      have hsz : ({ data := #[0] } ++ x : ByteArray).size = 1 + x.size := by rw [ByteArray.size_append]; rfl
      have HE : Hid (rootL l = leafL x) := by show rootL l = _; rw [list_one h1 hx0.out]; rfl
      have h0' : ((l.length : Int) == 0) = false := ieq_f (by omega)
      have h1' : ((l.length : Int) == 1) = true := ieq_t (by omega)
      have hpos : 0 < l.length := by omega
      rw [Nat.add_zero] at c0
      clear hl h1
      go_enter Tryd.func19, Tryd.ntmps19
      go_wp2_with (go_at_call 14; refine (hash_any _ _ (by omega)).mono ?_; rintro e w1 ⟨rfl, rfl⟩)
      go_ret
      exact ⟨ret_u64 (by rw [HE.out]; rfl), by first | exact Below.refl _ _ | trivial⟩
    have hs := splitN_bd (n := l.length) (by omega) hm
    have hr1 := Rep.slice_take hl (k := splitN l.length) (by omega)
    have hr2 := Rep.slice_drop hl (k := splitN l.length) (by omega)
    rw [show splitN l.length * Rep.str.size = splitN l.length from Nat.mul_one _] at hr2
    go_enter Tryd.func19, Tryd.ntmps19
    have e0 : ((l.length : Int) == 0) = false := ieq_f (by omega)
    have e1 : ((l.length : Int) == 1) = false := ieq_f (by omega)
    go_wp2_with (go_at_call 27; refine (split_any _ _ (by omega) hm).mono ?_; rintro e w' ⟨rfl, rfl⟩)
    have HE := Lib.hid (rootL_pair (l := l) (by omega) hm)
    have q1 := run_take (P := Tryd.prog) Tryd.underlying30 Tryd.sizeOf9 (some ⟨b, off, none⟩) l.length c (splitN l.length) (by omega)
    have q2 := run_drop (P := Tryd.prog) Tryd.underlying30 Tryd.sizeOf9 b off l.length c (splitN l.length) (by omega) (by omega)
    rw [Nat.mul_one] at q2
    generalize splitN l.length = k at *
    have hb1 := rootL_bd (l.take k)
    have hb2 := rootL_bd (l.drop k)
    have hl1 : (l.take k).length ≤ n := by rw [List.length_take]; omega
    have hl2 : (l.drop k).length ≤ n := by rw [List.length_drop]; omega
    have ih1 := Lib.hid (fun W h => ih (l.take k) (.slice (some ⟨b, off, none⟩) k c) W hl1 h (hsm.take k))
    have ih2 := Lib.hid (fun W h => ih (l.drop k) (.slice (some ⟨b, off + k, none⟩) (l.length - k) (c - k)) W hl2 h (hsm.drop k))
    clear hl1 hl2 ih
    generalize rootL (l.take k) = x1 at *
    generalize rootL (l.drop k) = x2 at *
    obtain ⟨y1, y2⟩ := hb1
    obtain ⟨y3, y4⟩ := hb2
    go_region_held3 (fun W => Below w.heap.size w W)
      (first
        | exact (Below.refl _ _).drew
        | assumption)
      (first
        | (go_at_call 19
           first
            | ((with_reducible refine (ih1.out _ (Rep.below hr1 (by assumption))).mono ?_)
               rintro e W1 ⟨rfl, hb⟩
               have hSa := bstep (B := w.heap.size) (a := w) (by assumption) (Below.size (by assumption)) hb)
            | ((with_reducible refine (ih2.out _ (Rep.below hr2 (by assumption))).mono ?_)
               rintro e W1 ⟨rfl, hb⟩
               have hSb := bstep (B := w.heap.size) (a := w) (by assumption) (Below.size (by assumption)) hb))
        | (go_at_call 16
           refine (pair_any _ _ _ y1 y2 y3 y4).mono ?_
           rintro e W1 ⟨rfl, hb⟩
           have hSc := bstep (B := w.heap.size) (a := w) (by assumption) (Below.size (by assumption)) hb))
    go_wp2
    go_ret
    exact ⟨ret_u64 HE.out.symm, by assumption⟩

set_option maxHeartbeats 400000 in
theorem leaf_any (x : ByteArray) (w : World) (hx : x.size ≤ 1000000000) :
    Calls Tryd.prog 28 #[.string x] w fun e w' => e = .returned (.int .u64 (leafL x)) ∧ w = w' := by
  have hsz : ({ data := #[0] } ++ x : ByteArray).size = 1 + x.size := by rw [ByteArray.size_append]; rfl
  have HE : Hid (leafL x = hashL (0 :: bs x)) := rfl
  go_enter Tryd.func28, Tryd.ntmps28
  go_wp2_with (go_at_call 15; refine (refHash_any _ _ (by omega)).mono ?_; rintro e w1 ⟨rfl, rfl⟩)
  go_ret
  exact ⟨ret_u64 (by rw [HE.out]; rfl), by trivial⟩

set_option maxHeartbeats 400000 in
theorem refRoot_any (n : Nat) : ∀ (l : List ByteArray) (v : Value) (w : World), l.length ≤ n → Rep.str.slice.R w (Lt w) l [v] → Sm l →
    Calls Tryd.prog 20 #[v] w (Ret (.int .u64 (rootL l)) w) := by
  induction n with
  | zero =>
    intro l v w hln hl hsm
    obtain rfl : l = [] := List.eq_nil_of_length_eq_zero (by omega)
    obtain ⟨A, c, rfl, hm, hcap⟩ := slice_inv hl
    go_enter Tryd.func20, Tryd.ntmps20
    go_wp2_with (go_at_call 15; refine (refHash_any _ _ (by decide)).mono ?_; rintro e w1 ⟨rfl, rfl⟩)
    go_ret
    exact ⟨rfl, by first | exact Below.refl _ _ | trivial⟩
  | succ n ih =>
    intro l v w hln hl hsm
    obtain ⟨A, c, rfl, hm, hcap⟩ := slice_inv hl
    by_cases h0 : l.length = 0
    · obtain rfl : l = [] := List.eq_nil_of_length_eq_zero h0
      clear h0
      go_enter Tryd.func20, Tryd.ntmps20
      go_wp2_with (go_at_call 15; refine (refHash_any _ _ (by decide)).mono ?_; rintro e w1 ⟨rfl, rfl⟩)
      go_ret
      exact ⟨rfl, by first | exact Below.refl _ _ | trivial⟩
    obtain ⟨b, off, x, rfl, hx0, -, c0, -⟩ := strs_at hl (show 0 < l.length by omega)
    by_cases h1 : l.length = 1
    · have hx : x.size ≤ 1000000000 := hsm x (List.mem_of_getElem? hx0.out)
      have hsz : ({ data := #[0] } ++ x : ByteArray).size = 1 + x.size := by rw [ByteArray.size_append]; rfl
      have HE : Hid (rootL l = leafL x) := by show rootL l = _; rw [list_one h1 hx0.out]; rfl
      have h0' : ((l.length : Int) == 0) = false := ieq_f (by omega)
      have h1' : ((l.length : Int) == 1) = true := ieq_t (by omega)
      have hpos : 0 < l.length := by omega
      rw [Nat.add_zero] at c0
      clear hl h1
      go_enter Tryd.func20, Tryd.ntmps20
      go_wp2_with (go_at_call 28; refine (leaf_any _ _ hx).mono ?_; rintro e w1 ⟨rfl, rfl⟩)
      go_ret
      exact ⟨ret_u64 (by rw [HE.out]), by first | exact Below.refl _ _ | trivial⟩
    have hs := splitN_bd (n := l.length) (by omega) hm
    have hr1 := Rep.slice_take hl (k := splitN l.length) (by omega)
    have hr2 := Rep.slice_drop hl (k := splitN l.length) (by omega)
    rw [show splitN l.length * Rep.str.size = splitN l.length from Nat.mul_one _] at hr2
    go_enter Tryd.func20, Tryd.ntmps20
    have e0 : ((l.length : Int) == 0) = false := ieq_f (by omega)
    have e1 : ((l.length : Int) == 1) = false := ieq_f (by omega)
    go_wp2_with (go_at_call 29; refine (left_any _ _ (by omega) hm).mono ?_; rintro e w' ⟨rfl, rfl⟩)
    have HE := Lib.hid (rootL_pair (l := l) (by omega) hm)
    have q1 := run_take (P := Tryd.prog) Tryd.underlying30 Tryd.sizeOf9 (some ⟨b, off, none⟩) l.length c (splitN l.length) (by omega)
    have q2 := run_drop (P := Tryd.prog) Tryd.underlying30 Tryd.sizeOf9 b off l.length c (splitN l.length) (by omega) (by omega)
    rw [Nat.mul_one] at q2
    generalize splitN l.length = k at *
    have hb1 := rootL_bd (l.take k)
    have hb2 := rootL_bd (l.drop k)
    have hl1 : (l.take k).length ≤ n := by rw [List.length_take]; omega
    have hl2 : (l.drop k).length ≤ n := by rw [List.length_drop]; omega
    have ih1 := Lib.hid (fun W h => ih (l.take k) (.slice (some ⟨b, off, none⟩) k c) W hl1 h (hsm.take k))
    have ih2 := Lib.hid (fun W h => ih (l.drop k) (.slice (some ⟨b, off + k, none⟩) (l.length - k) (c - k)) W hl2 h (hsm.drop k))
    clear hl1 hl2 ih
    generalize rootL (l.take k) = x1 at *
    generalize rootL (l.drop k) = x2 at *
    obtain ⟨y1, y2⟩ := hb1
    obtain ⟨y3, y4⟩ := hb2
    go_region_held3 (fun W => Below w.heap.size w W)
      (first
        | exact (Below.refl _ _).drew
        | assumption)
      (first
        | (go_at_call 20
           first
            | ((with_reducible refine (ih1.out _ (Rep.below hr1 (by assumption))).mono ?_)
               rintro e W1 ⟨rfl, hb⟩
               have hSa := bstep (B := w.heap.size) (a := w) (by assumption) (Below.size (by assumption)) hb)
            | ((with_reducible refine (ih2.out _ (Rep.below hr2 (by assumption))).mono ?_)
               rintro e W1 ⟨rfl, hb⟩
               have hSb := bstep (B := w.heap.size) (a := w) (by assumption) (Below.size (by assumption)) hb))
        | (go_at_call 17
           refine (refPair_any _ _ _ y1 y2 y3 y4).mono ?_
           rintro e W1 ⟨rfl, hb⟩
           have hSc := bstep (B := w.heap.size) (a := w) (by assumption) (Below.size (by assumption)) hb))
    go_wp2
    go_ret
    exact ⟨ret_u64 HE.out.symm, by assumption⟩
end Go.Proofs.YtejlmdkbcjkkhaaDoor

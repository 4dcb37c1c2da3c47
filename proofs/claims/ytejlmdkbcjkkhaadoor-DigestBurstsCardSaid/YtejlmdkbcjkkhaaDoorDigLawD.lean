/- Chapter 06: the law DigestTrees, by walking its text. -/
import Derived.Test.YtejlmdkbcjkkhaaDoorDigLawA
import Derived.Deep.RegionHeld3
namespace Go.Proofs.YtejlmdkbcjkkhaaDoor
open Go Go.RowKit Go.ChangeShapes

theorem opens_u8 : OpensZ Tryd.prog 5 Rep.u8 (fun _ => True) := by
  intro H enc W sp held fuel cs x h _
  obtain ⟨n, rfl, _, hw⟩ := DataW.trod_int Tryd.underlying5 h
  have := bounds_u8 hw
  refine ⟨UInt8.ofNat n.toNat, ?_, trivial⟩
  show [Value.int .u8 n] = [Value.int .u8 ((UInt8.ofNat n.toNat).toNat : Int)]
  rw [UInt8.toNat_ofNat_of_lt' (by show n.toNat < 256; omega)]
  rw [Int.toNat_of_nonneg this.1]
theorem u8_inv {w : World} {D : Nat → Prop} {x : UInt8} {a : Int} (h : Rep.u8.R w D x (Value.int .u8 a).cells.toList) : a = (x.toNat : Int) := by
  have e' : [Value.int .u8 a] = [Value.int .u8 (x.toNat : Int)] := h
  simpa using e'
theorem tree_eq {l : List ByteArray} {j : Nat} (h1 : 2 ^ j < l.length) (h2 : l.length ≤ 2 * 2 ^ j) (hl : l.length ≤ 100) : rootL l = pairL (rootL (l.take (2 ^ j))) (rootL (l.drop (2 ^ j))) := by
  have hp : 0 < 2 ^ j := Nat.two_pow_pos j
  have := rootL_pair (l := l) (by omega) (by omega)
  rw [splitN_eq (by omega) (by omega) h1 h2] at this
  exact this
set_option maxRecDepth 100000 in
set_option maxHeartbeats 4000000 in
theorem trees_law (v : Value) (q : Int) (l : List ByteArray) (k : UInt8) (w : World) (hT : TabW w) (hl : Rep.str.slice.R w (Lt w) l [v]) (hz : SliceZ StrZ l) (hk : Rep.u8.R w (Lt w) k (Value.int .u8 q).cells.toList) (_ : True) :
    Calls Tryd.prog 9 #[v, .int .u8 q] w (Ret (.bool true) w) := by
  obtain rfl := u8_inv hk
  clear hk
  have HT := Lib.hid hT
  clear hT
  go_enter Tryd.func9, Tryd.ntmps9
  go_wp2_with fail
  have e := wrap64_pow (m := k.toNat % 7) (by omega)
  rw [e]
  clear e
  have hn1 : 1 ≤ 2 ^ (k.toNat % 7) := Nat.two_pow_pos _
  have hn2 : 2 ^ (k.toNat % 7) ≤ 64 := Nat.pow_le_pow_right (n := 2) (j := 6) (by omega) (by omega)
  have HE : Hid (2 ^ (k.toNat % 7) < l.length → l.length ≤ 2 * 2 ^ (k.toNat % 7) → l.length ≤ 100 → rootL l = pairL (rootL (l.take (2 ^ (k.toNat % 7)))) (rootL (l.drop (2 ^ (k.toNat % 7))))) := fun h1 h2 h3 => tree_eq h1 h2 h3
  generalize 2 ^ (k.toNat % 7) = n at *
  cases hli : lightB l
  · refine (light_any _ _ _ hl hz).mono ?_
    rw [hli]
    rintro e w1 ⟨rfl, rfl⟩
    go_wp2_with (go_at_call 13; refine (awake_any _ HT.out).mono ?_; rintro e w1 ⟨rfl, hb⟩)
    go_ret
    exact ⟨rfl, hb⟩
  obtain ⟨h100, hsm⟩ := light_sm hli
  obtain ⟨A, c, rfl, hmm, hcap⟩ := slice_inv hl
  refine (light_any _ _ _ hl hz).mono ?_
  rw [hli]
  rintro e w1 ⟨rfl, rfl⟩
  clear hli hz
  by_cases h1 : l.length ≤ n
  · have h1' : (l.length : Int) ≤ (n : Int) := by omega
    clear h1
    go_wp2_with (go_at_call 13; refine (awake_any _ HT.out).mono ?_; rintro e w1 ⟨rfl, hb⟩)
    go_ret
    exact ⟨rfl, hb⟩
  by_cases h2 : 2 * n < l.length
  · have h2' : 2 * (n : Int) < (l.length : Int) := by omega
    have h1' : ¬ (l.length : Int) ≤ (n : Int) := by omega
    clear h1 h2
    go_wp2_with (go_at_call 13; refine (awake_any _ HT.out).mono ?_; rintro e w1 ⟨rfl, hb⟩)
    go_ret
    exact ⟨rfl, hb⟩
  have h1' : ¬ (l.length : Int) ≤ (n : Int) := by omega
  have h2' : ¬ 2 * (n : Int) < (l.length : Int) := by omega
  have HE' := Lib.hid (HE.out (by omega) (by omega) h100)
  clear HE
  obtain ⟨b, off, x, rfl, -, -, -, -⟩ := strs_at hl (show 0 < l.length by omega)
  have hr1 := Rep.slice_take hl (k := n) (by omega)
  have hr2 := Rep.slice_drop hl (k := n) (by omega)
  rw [show n * Rep.str.size = n from Nat.mul_one _] at hr2
  have q1 := run_take (P := Tryd.prog) Tryd.underlying30 Tryd.sizeOf9 (some ⟨b, off, none⟩) l.length c n (by omega)
  have q2 := run_drop (P := Tryd.prog) Tryd.underlying30 Tryd.sizeOf9 b off l.length c n (by omega) (by omega)
  rw [Nat.mul_one] at q2
  have c0 := Lib.hid (fun W h => root_any l.length l (.slice (some ⟨b, off, none⟩) l.length c) W (Nat.le_refl _) h hsm)
  have c1 := Lib.hid (fun W h => root_any (l.take n).length (l.take n) (.slice (some ⟨b, off, none⟩) n c) W (Nat.le_refl _) h (hsm.take n))
  have c2 := Lib.hid (fun W h => root_any (l.drop n).length (l.drop n) (.slice (some ⟨b, off + n, none⟩) (l.length - n) (c - n)) W (Nat.le_refl _) h (hsm.drop n))
  rw [HE'.out] at c0
  have hb1 := rootL_bd (l.take n)
  have hb2 := rootL_bd (l.drop n)
  have c3 : Hid (∀ W, Calls Tryd.prog 16 #[.int .u64 (rootL (l.take n)), .int .u64 (rootL (l.drop n))] W (Ret (.int .u64 (pairL (rootL (l.take n)) (rootL (l.drop n)))) W)) := fun W => pair_any _ _ W hb1.1 hb1.2 hb2.1 hb2.2
  clear hb1 hb2
  generalize rootL (l.take n) = x1 at *
  generalize rootL (l.drop n) = x2 at *
  generalize pairL x1 x2 = x3 at *
  have eb := beq_self_int x3
  go_wp2_with fail
  go_region_held3 (fun W => Below w.heap.size w W)
    (first
      | exact (Below.refl _ _).drew
      | assumption)
    (first
      | (go_at_call 19
         first
          | ((with_reducible refine (c1.out _ (Rep.below hr1 (by assumption))).mono ?_)
             rintro e W1 ⟨rfl, hb⟩
             have hSa := bstep (B := w.heap.size) (a := w) (by assumption) (Below.size (by assumption)) hb)
          | ((with_reducible refine (c2.out _ (Rep.below hr2 (by assumption))).mono ?_)
             rintro e W1 ⟨rfl, hb⟩
             have hSb := bstep (B := w.heap.size) (a := w) (by assumption) (Below.size (by assumption)) hb)
          | ((with_reducible refine (c0.out _ (Rep.below hl (by assumption))).mono ?_)
             rintro e W1 ⟨rfl, hb⟩
             have hSc := bstep (B := w.heap.size) (a := w) (by assumption) (Below.size (by assumption)) hb))
      | (go_at_call 16
         refine (c3.out _).mono ?_
         rintro e W1 ⟨rfl, hb⟩
         have hSd := bstep (B := w.heap.size) (a := w) (by assumption) (Below.size (by assumption)) hb)
      | (go_at_call 13
         refine (awake_any _ (HT.out.below (by assumption))).mono ?_
         rintro e W1 ⟨rfl, hb⟩
         have hSe := bstep (B := w.heap.size) (a := w) (by assumption) (Below.size (by assumption)) hb))
  all_goals
    go_wp2
    go_ret
    exact ⟨rfl, by assumption⟩
end Go.Proofs.YtejlmdkbcjkkhaaDoor

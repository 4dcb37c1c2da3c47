/- Chapter 33: Offset, of the program and of the reference, by walking their text. -/
import Derived.Test.YtlhkidiieajamaaDistWalksF
import Derived.Test.YtlhkidiieajamaaSums
namespace Go.Proofs.Ytlhkidiieajamaa
open Go Go.RowKit

theorem belowTo_yes {l : List Bead} {shrink : List Int} {at_ p s x : Int} {k : Nat} (h : l[k]? = some ⟨p, s⟩) (hs : shrink[k]? = some x) (hp : p < at_) : belowTo l shrink at_ (k + 1) = belowTo l shrink at_ k ++ [x] := by
  rw [belowTo, getD_of h, getD_of' hs, if_pos hp]
theorem belowTo_no {l : List Bead} {shrink : List Int} {at_ p s : Int} {k : Nat} (h : l[k]? = some ⟨p, s⟩) (hp : ¬ p < at_) : belowTo l shrink at_ (k + 1) = belowTo l shrink at_ k := by
  rw [belowTo, getD_of h, if_neg hp]
def OwnInts (w : World) (base : Nat) (v : Value) (xs : List Int) : Prop := w.ownsRow base 3 1 v xs.length (xs.map (Value.int .i64))

theorem below_bd {l : List Bead} {shrink : List Int} {at_ : Int} (hb : ∀ x ∈ shrink, inI64 x) {k : Nat} (hk : k ≤ shrink.length) : ∀ x ∈ belowTo l shrink at_ k, inI64 x := fun x hx => hb x (belowTo_mem hk x hx)
theorem ints_bd {w : World} {D : Nat → Prop} {xs : List Int} {v : Value} (h : Rep.int.slice.R w D xs [v]) : ∀ x ∈ xs, inI64 x := by
  intro x hx
  obtain ⟨k, hk, rfl⟩ := List.getElem_of_mem hx
  obtain ⟨A, c, _, _, _, h3⟩ := h
  obtain ⟨b, off, es, _, _, ⟨_, h4⟩, _⟩ := h3 k hk
  exact h4

theorem own_snoc {w : World} {base : Nat} {v : Value} {xs : List Int} {y : Int} (h : w.ownsRow base 3 1 v (xs.length + 1) (xs.map (Value.int .i64) ++ [.int .i64 y])) : OwnInts w base v (xs ++ [y]) := by
  unfold OwnInts
  rw [List.length_append, List.map_append]
  exact h
theorem sumF_cases (xs : List Int) : (sumF xs).2 = 0 ∨ sumF xs = (0, 21) := by
  unfold sumF; split
  · exact .inl rfl
  · exact .inr rfl

set_option maxHeartbeats 400000 in
theorem offset_any (vl vs : Value) (l : List Bead) (shrink : List Int) (at_ : Int) (w : World) (hl : beadR.slice.R w (Lt w) l [vl]) (hs : Rep.int.slice.R w (Lt w) shrink [vs]) (hn : l.length ≤ 1000000) :
    Calls Try.prog 17 #[vl, vs, .int .i64 at_] w (Ret (.int .i64 (offF l shrink at_)) w) := by
  have HSB := Lib.hid (ints_bd hs)
  obtain ⟨A, c, rfl, hm, -⟩ := slice_inv hl
  obtain ⟨F, d, rfl, hm', -⟩ := slice_inv hs
  obtain ⟨i0, hi, hz0, hz1, hz2⟩ := info_parts int_info
  by_cases hlen : shrink.length < l.length
  all_goals
    go_enter Try.func17, Try.ntmps17
    go_wp2
    go_loopw [7, 16] (fun v i wr => ∃ k : Nat, k ≤ l.length ∧ k ≤ shrink.length ∧ i = .int .i64 k ∧ OwnInts wr w.heap.size v (belowTo l shrink at_ k) ∧ Below w.heap.size w wr) (fun _ i _ => min l.length shrink.length - (intOf i).toNat)
    case atStart => exact ⟨0, Nat.zero_le _, Nat.zero_le _, rfl, World.ownsRow_nil _ _ _ _, Below.refl _ _⟩
    case round =>
      obtain ⟨k, hk, hk', rfl, hown, hb⟩ := hrel
      have hbl := belowTo_length l shrink at_ k
      have hz := hb.size
      by_cases hlt : k < l.length ∧ k < shrink.length
      · obtain ⟨hlt1, hlt2⟩ := hlt
        obtain ⟨b, off, p, s, rfl, hx, -, c0, -⟩ := beads_at (Rep.at_ hl hb) hlt1
        obtain ⟨b', off', y, rfl, hy, -, c1, -⟩ := ints_at (Rep.at_ hs hb) hlt2
        by_cases hp : p < at_
        · have H1 := Lib.hid (belowTo_yes hx.out hy.out hp)
          go_wp2_with (at_builtin; refine wpList_append_own _ rfl _ _ 25 rfl w.heap.size 3 i0 (.int .i64 0) 1 8 Try.underlying25 hi hz0 hz1 hz2 rfl (by decide) _ _ _ rfl (World.ownsRow.alloc hown _) ⟨wr.heap.size, 0, none⟩ 1 1 [.int .i64 y] rfl rfl (new1_cells _ _ _) (one_oneCell rfl) (by unfold maxLen; omega) (by omega) (by simp; omega) ?_; intro v1 w1 hown1 hg1 _)
          go_roundw
          case rel => exact ⟨k + 1, by omega, by omega, by go_num, by rw [H1.out]; exact own_snoc hown1, (hb.alloc hz _).grown hg1 (by simp; omega) (fun j hj => (World.ownsRow.lt hown j hj).1)⟩
          case measure => simp [intOf]; omega
        · have H1 := Lib.hid (belowTo_no (shrink := shrink) hx.out hp)
          go_wp2
          go_roundw
          case rel => exact ⟨k + 1, by omega, by omega, by go_num, by rw [H1.out]; exact hown, hb⟩
          case measure => simp [intOf]; omega
      · have hke : k = min l.length shrink.length := by omega
        have hint := own_ints hown (below_bd HSB.out hk')
        have HE : Hid (offF l shrink at_ = (sumF (belowTo l shrink at_ k)).1) := by show offF l shrink at_ = _; rw [hke]; rfl
        have hkk : ¬ k < min l.length shrink.length := by omega
        clear hke
        rcases sumF_cases (belowTo l shrink at_ k) with hc | hc
        · have hb1 : ((sumF (belowTo l shrink at_ k)).2 != 0) = false := by simp [hc]
          have HC := Lib.hid hc
          clear hc
          go_wp2_with (go_at_call 23; refine (sum_any _ _ _ hint (by omega)).mono ?_; rintro e w1 ⟨rfl, rfl⟩)
          go_ret
          exact ⟨ret_int HE.out.symm, hb⟩
        · have hb1 : ((sumF (belowTo l shrink at_ k)).2 != 0) = true := by simp [hc]
          have HC := Lib.hid hc
          clear hc
          go_wp2_with (go_at_call 23; refine (sum_any _ _ _ hint (by omega)).mono ?_; rintro e w1 ⟨rfl, rfl⟩)
          go_ret
          exact ⟨ret_int (by rw [HE.out, HC.out]), hb⟩

set_option maxHeartbeats 400000 in
theorem refOffset_any (vl vs : Value) (l : List Bead) (shrink : List Int) (at_ : Int) (w : World) (hl : beadR.slice.R w (Lt w) l [vl]) (hs : Rep.int.slice.R w (Lt w) shrink [vs]) (hn : l.length ≤ 1000000) :
    Calls Try.prog 18 #[vl, vs, .int .i64 at_] w (Ret (.int .i64 (offF l shrink at_)) w) := by
  have HSB := Lib.hid (ints_bd hs)
  obtain ⟨A, c, rfl, hm, -⟩ := slice_inv hl
  obtain ⟨F, d, rfl, hm', -⟩ := slice_inv hs
  obtain ⟨i0, hi, hz0, hz1, hz2⟩ := info_parts int_info
  go_enter Try.func18, Try.ntmps18
  go_wp2
  go_loopw [7, 8] (fun v i wr => ∃ k : Nat, k ≤ l.length ∧ k ≤ shrink.length ∧ i = .int .i64 k ∧ OwnInts wr w.heap.size v (belowTo l shrink at_ k) ∧ Below w.heap.size w wr) (fun _ i _ => min l.length shrink.length - (intOf i).toNat)
  case atStart => exact ⟨0, Nat.zero_le _, Nat.zero_le _, rfl, World.ownsRow_nil _ _ _ _, Below.refl _ _⟩
  case round =>
    obtain ⟨k, hk, hk', rfl, hown, hb⟩ := hrel
    have hbl := belowTo_length l shrink at_ k
    have hz := hb.size
    by_cases hlt1 : k < l.length
    · by_cases hlt2 : k < shrink.length
      · obtain ⟨b, off, p, s, rfl, hx, -, c0, -⟩ := beads_at (Rep.at_ hl hb) hlt1
        obtain ⟨b', off', y, rfl, hy, -, c1, -⟩ := ints_at (Rep.at_ hs hb) hlt2
        by_cases hp : p < at_
        · have H1 := Lib.hid (belowTo_yes hx.out hy.out hp)
          go_wp2_with (at_builtin; refine wpList_append_own _ rfl _ _ 25 rfl w.heap.size 3 i0 (.int .i64 0) 1 8 Try.underlying25 hi hz0 hz1 hz2 rfl (by decide) _ _ _ rfl (World.ownsRow.alloc hown _) ⟨wr.heap.size, 0, none⟩ 1 1 [.int .i64 y] rfl rfl (new1_cells _ _ _) (one_oneCell rfl) (by unfold maxLen; omega) (by omega) (by simp; omega) ?_; intro v1 w1 hown1 hg1 _)
          go_roundw
          case rel => exact ⟨k + 1, by omega, by omega, by go_num, by rw [H1.out]; exact own_snoc hown1, (hb.alloc hz _).grown hg1 (by simp; omega) (fun j hj => (World.ownsRow.lt hown j hj).1)⟩
          case measure => simp [intOf]; omega
        · have H1 := Lib.hid (belowTo_no (shrink := shrink) hx.out hp)
          go_wp2
          go_roundw
          case rel => exact ⟨k + 1, by omega, by omega, by go_num, by rw [H1.out]; exact hown, hb⟩
          case measure => simp [intOf]; omega
      · have hint := own_ints hown (below_bd HSB.out hk')
        have HE : Hid (offF l shrink at_ = (sumF (belowTo l shrink at_ k)).1) := by show offF l shrink at_ = _; rw [show k = min l.length shrink.length from by omega]; rfl
        go_wp2_with (go_at_call 24; refine (refSum_any _ _ _ hint (by omega)).mono ?_; rintro e w1 ⟨rfl, rfl⟩)
        go_ret
        exact ⟨ret_int HE.out.symm, hb⟩
    · have hint := own_ints hown (below_bd HSB.out hk')
      have HE : Hid (offF l shrink at_ = (sumF (belowTo l shrink at_ k)).1) := by show offF l shrink at_ = _; rw [show k = min l.length shrink.length from by omega]; rfl
      go_wp2_with (go_at_call 24; refine (refSum_any _ _ _ hint (by omega)).mono ?_; rintro e w1 ⟨rfl, rfl⟩)
      go_ret
      exact ⟨ret_int HE.out.symm, hb⟩
end Go.Proofs.Ytlhkidiieajamaa

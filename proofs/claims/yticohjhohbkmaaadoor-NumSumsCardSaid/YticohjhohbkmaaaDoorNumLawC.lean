/- Chapter 01: the law NumSums, by walking its text. -/
import Derived.Test.YticohjhohbkmaaaDoorNumLawA
namespace Go.Proofs.YticohjhohbkmaaaDoor
open Go Go.RowKit Go.ChangeShapes

theorem int_info1 : (Tryd.prog.info? 3).map (fun i => (i.zero, i.size, i.bytes)) = some (some (.int .i64 0), 1, 8) := by kernel_rfl
def OwnIs (w : World) (base : Nat) (v : Value) (xs : List Int) : Prop := w.ownsRow base 3 1 v xs.length (xs.map (Value.int .i64))
theorem ownIs_snoc {w : World} {base : Nat} {v : Value} {xs : List Int} {y : Int} (h : w.ownsRow base 3 1 v (xs.length + 1) (xs.map (Value.int .i64) ++ [.int .i64 y])) : OwnIs w base v (xs ++ [y]) := by
  unfold OwnIs
  rw [List.length_append, List.map_append]
  exact h
theorem back_one {l : List Int} {m : Nat} {x : Int} (h : l[m]? = some x) : (l.drop m).reverse = (l.drop (m + 1)).reverse ++ [x] := by
  obtain ⟨hm, rfl⟩ := List.getElem?_eq_some_iff.1 h
  rw [List.drop_eq_getElem_cons hm, List.reverse_cons]
theorem sumF_back (l : List Int) : sumF l.reverse = sumF l := by unfold sumF; rw [List.sum_reverse]
set_option maxRecDepth 100000 in
set_option maxHeartbeats 2000000 in
theorem sums_law (v : Value) (l : List Int) (w : World) (hT : TabP w) (hl : Rep.int.slice.R w (Lt w) l [v]) (_ : SliceZ (fun _ => True) l) :
    Calls Tryd.prog 7 #[v] w (Ret (.bool true) w) := by
  have HSB := Lib.hid (ints_bd hl)
  obtain ⟨A, c, rfl, hm, -⟩ := slice_inv hl
  obtain ⟨i0, hi, hz0, hz1, hz2⟩ := info_parts int_info1
  have HT := Lib.hid hT
  clear hT
  by_cases hbig : 10000 < l.length
  · go_enter Tryd.func7, Tryd.ntmps7
    go_wp2_with fail
    refine (alive_any _ HT.out).mono ?_
    rintro e w4 ⟨rfl, hb⟩
    go_wp2_with fail
    go_ret
    exact ⟨rfl, hb⟩
  have hsm : l.length ≤ 10000 := by omega
  go_enter Tryd.func7, Tryd.ntmps7
  go_wp2
  go_loopw [3, 4] (fun v i wr => ∃ (k : Nat) (n : Int), k ≤ l.length ∧ i = .int .i64 n ∧ n + 1 = (k : Int) ∧ OwnIs wr w.heap.size v (l.drop k).reverse ∧ Below w.heap.size w wr) (fun _ i _ => (intOf i + 1).toNat)
  case atStart => exact ⟨l.length, (l.length : Int) - 1, Nat.le_refl _, rfl, by omega, by rw [List.drop_length]; exact World.ownsRow_nil _ _ _ _, Below.refl _ _⟩
  case round =>
    obtain ⟨k, n, hk, rfl, hn, hown, hb⟩ := hrel
    have hz := hb.size
    have hlen : (l.drop k).reverse.length = l.length - k := by simp
    by_cases h0 : 0 ≤ n
    · obtain ⟨m, rfl⟩ : ∃ m : Nat, n = (m : Int) := ⟨n.toNat, by omega⟩
      obtain rfl : k = m + 1 := by omega
      obtain ⟨b', off', y, rfl, hy, -, c1, hy0, hy1⟩ := ints_at (Rep.at_ hl hb) (show m < l.length by omega)
      have H1 := Lib.hid (back_one hy.out)
      go_wp2_with (at_builtin; refine wpList_append_own _ rfl _ _ 33 rfl w.heap.size 3 i0 (.int .i64 0) 1 8 Tryd.underlying33 hi hz0 hz1 hz2 rfl (by decide) _ _ _ rfl (World.ownsRow.alloc hown _) ⟨wr.heap.size, 0, none⟩ 1 1 [.int .i64 y] rfl rfl (new1_cells _ _ _) (one_oneCell rfl) (by unfold maxLen; omega) (by omega) (by simp; omega) ?_; intro v1 w1 hown1 hg1 _)
      go_roundw
      case rel => exact ⟨m, (m : Int) - 1, by omega, rfl, by omega, by rw [H1.out]; exact ownIs_snoc hown1, (hb.alloc hz _).grown hg1 (by simp; omega) (fun j hj => (World.ownsRow.lt hown j hj).1)⟩
      case measure => simp [intOf] <;> omega
    · obtain rfl : k = 0 := by omega
      rw [List.drop_zero] at hown
      have hint := own_ints hown (fun x hx => HSB.out x (by simpa using hx))
      have c1 := sum_any _ l wr (Rep.below hl hb) (by omega)
      have c2 := refSum_any _ l wr (Rep.below hl hb) (by omega)
      have c3 := sum_any _ _ wr hint (by simp; omega)
      have hs : SumPost l.reverse wr = SumPost l wr := by unfold SumPost; rw [sumF_back]
      rw [hs] at c3
      unfold SumPost at c1 c2 c3
      generalize sumF l = z at *
      obtain ⟨x1, x2⟩ := z
      have s1 := beq_self_int x1
      have s2 := beq_self_int x2
      have C1 := Lib.hid c1
      have C2 := Lib.hid c2
      have C3 := Lib.hid c3
      clear c1 c2 c3 hs hint
      go_wp2_with fail
      refine C1.out.mono ?_
      rintro e w1 ⟨rfl, rfl⟩
      go_wp2_with fail
      refine C2.out.mono ?_
      rintro e w1 ⟨rfl, rfl⟩
      go_wp2_with fail
      refine C3.out.mono ?_
      rintro e w1 ⟨rfl, rfl⟩
      go_wp2_with fail
      refine (alive_any _ (HT.out.below hb)).mono ?_
      rintro e w4 ⟨rfl, hb4⟩
      go_wp2_with fail
      go_ret
      exact ⟨rfl, bstep hb hb.size hb4⟩
end Go.Proofs.YticohjhohbkmaaaDoor

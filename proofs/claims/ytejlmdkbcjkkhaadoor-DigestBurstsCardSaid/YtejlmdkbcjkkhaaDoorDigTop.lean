/- Chapter 06: Verify, of the program and of the reference, Same and light, by walking their text. -/
import Derived.Test.YtejlmdkbcjkkhaaDoorDigGiven
import Derived.Test.YtejlmdkbcjkkhaaDoorOpenZ
namespace Go.Proofs.YtejlmdkbcjkkhaaDoor
open Go Go.RowKit Go.ChangeShapes

def verifyL (root : Int) (s : ByteArray) (i n : Int) (p : List Int) : Bool := if i < 0 ∨ n ≤ i then false else (givenL p s i.toNat n.toNat).2 && ((givenL p s i.toNat n.toNat).1 == root)

set_option maxHeartbeats 1000000 in
theorem verify_any (root : Int) (s : ByteArray) (i n : Int) (v : Value) (p : List Int) (w : World) (hl : Rep.u64.slice.R w (Lt w) p [v]) (hn : n ≤ 9223372036854775807) (hs : s.size ≤ 1000000000) :
    Calls Tryd.prog 24 #[.int .u64 root, .string s, .int .i64 i, .int .i64 n, v] w (Ret (.bool (verifyL root s i n p)) w) := by
  by_cases h1 : i < 0
  · have HE : Hid (verifyL root s i n p = false) := by show _ = _; unfold verifyL; rw [if_pos (.inl h1)]
    go_enter Tryd.func24, Tryd.ntmps24
    go_wp2_with fail
    go_ret
    exact ⟨ret_bool (by rw [HE.out]), Below.refl _ _⟩
  by_cases h2 : n ≤ i
  · have HE : Hid (verifyL root s i n p = false) := by show _ = _; unfold verifyL; rw [if_pos (.inr h2)]
    go_enter Tryd.func24, Tryd.ntmps24
    go_wp2_with fail
    go_ret
    exact ⟨ret_bool (by rw [HE.out]), Below.refl _ _⟩
  have HE : Hid (verifyL root s i n p = ((givenL p s i.toNat n.toNat).2 && ((givenL p s i.toNat n.toNat).1 == root))) := by show _ = _; unfold verifyL; rw [if_neg (by omega)]
  have hg := Lib.hid (given_any p.length p v s i.toNat n.toNat w rfl (by omega) hl hs (by omega))
  rw [show ((i.toNat : Nat) : Int) = i from by omega, show ((n.toNat : Nat) : Int) = n from by omega] at hg
  generalize givenL p s i.toNat n.toNat = z at *
  obtain ⟨z1, z2⟩ := z
  cases z2
  · have HE' : Hid (verifyL root s i n p = false) := HE.out
    clear HE
    go_enter Tryd.func24, Tryd.ntmps24
    go_wp2_with fail
    refine hg.out.mono ?_
    rintro e w1 ⟨rfl, hb⟩
    go_wp2_with fail
    go_ret
    exact ⟨ret_bool (by rw [HE'.out]), hb⟩
  · have HE' : Hid (verifyL root s i n p = (z1 == root)) := HE.out
    clear HE
    go_enter Tryd.func24, Tryd.ntmps24
    go_wp2_with fail
    refine hg.out.mono ?_
    rintro e w1 ⟨rfl, hb⟩
    go_wp2_with fail
    go_ret
    exact ⟨ret_bool (by rw [HE'.out]), hb⟩

set_option maxHeartbeats 1000000 in
theorem refVerify_any (root : Int) (s : ByteArray) (i n : Int) (v : Value) (p : List Int) (w : World) (hl : Rep.u64.slice.R w (Lt w) p [v]) (hn : n ≤ 9223372036854775807) (hs : s.size ≤ 1000000000) :
    Calls Tryd.prog 25 #[.int .u64 root, .string s, .int .i64 i, .int .i64 n, v] w (Ret (.bool (verifyL root s i n p)) w) := by
  by_cases h1 : i < 0
  · have HE : Hid (verifyL root s i n p = false) := by show _ = _; unfold verifyL; rw [if_pos (.inl h1)]
    go_enter Tryd.func25, Tryd.ntmps25
    go_wp2_with fail
    go_ret
    exact ⟨ret_bool (by rw [HE.out]), Below.refl _ _⟩
  by_cases h2 : n ≤ i
  · have HE : Hid (verifyL root s i n p = false) := by show _ = _; unfold verifyL; rw [if_pos (.inr h2)]
    go_enter Tryd.func25, Tryd.ntmps25
    go_wp2_with fail
    go_ret
    exact ⟨ret_bool (by rw [HE.out]), Below.refl _ _⟩
  have HE : Hid (verifyL root s i n p = ((givenL p s i.toNat n.toNat).2 && ((givenL p s i.toNat n.toNat).1 == root))) := by show _ = _; unfold verifyL; rw [if_neg (by omega)]
  have hg := Lib.hid (refGiven_any p.length p v s i.toNat n.toNat w rfl (by omega) hl hs (by omega))
  rw [show ((i.toNat : Nat) : Int) = i from by omega, show ((n.toNat : Nat) : Int) = n from by omega] at hg
  generalize givenL p s i.toNat n.toNat = z at *
  obtain ⟨z1, z2⟩ := z
  cases z2
  · have HE' : Hid (verifyL root s i n p = false) := HE.out
    clear HE
    go_enter Tryd.func25, Tryd.ntmps25
    go_wp2_with fail
    refine hg.out.mono ?_
    rintro e w1 ⟨rfl, hb⟩
    go_wp2_with fail
    go_ret
    exact ⟨ret_bool (by rw [HE'.out]), hb⟩
  · have HE' : Hid (verifyL root s i n p = (z1 == root)) := HE.out
    clear HE
    go_enter Tryd.func25, Tryd.ntmps25
    go_wp2_with fail
    refine hg.out.mono ?_
    rintro e w1 ⟨rfl, hb⟩
    go_wp2_with fail
    go_ret
    exact ⟨ret_bool (by rw [HE'.out]), hb⟩

set_option maxHeartbeats 1000000 in
theorem same_any (vx vy : Value) (xs ys : List Int) (w : World) (hx : Rep.u64.slice.R w (Lt w) xs [vx]) (hy : Rep.u64.slice.R w (Lt w) ys [vy]) :
    Calls Tryd.prog 23 #[vx, vy] w fun e w' => e = .returned (.bool (decide (xs = ys))) ∧ Qt w w' := by
  obtain ⟨A, c, rfl, hm, _⟩ := slice_inv hx
  obtain ⟨B, d, rfl, hm', _⟩ := slice_inv hy
  by_cases hl : xs.length = ys.length
  · have hne : ((xs.length : Int) != (ys.length : Int)) = false := by simp [hl]
    have hll : ys.length ≤ xs.length := by omega
    have HL := Lib.hid hl
    clear hl
    go_enter Tryd.func23, Tryd.ntmps23
    go_wp2
    clear hne
    go_loopw [5] (fun i wr => ∃ k : Nat, k ≤ xs.length ∧ i = .int .i64 k ∧ Hid (xs.take k = ys.take k) ∧ Qt w wr) (fun i _ => xs.length - (intOf i).toNat)
    case atStart => exact ⟨0, Nat.zero_le _, rfl, rfl, Qt.refl _⟩
    case round =>
      obtain ⟨k, hk, rfl, HT, hq⟩ := hrel
      by_cases hlt : k < xs.length
      · obtain ⟨b, off, x, rfl, hxk, -, hc, -⟩ := u64s_at (hq.rep hx) hlt
        obtain ⟨b', off', y, rfl, hyk, -, hc', -⟩ := u64s_at (hq.rep hy) (k := k) (by have := HL.out; omega)
        have hlt' : k < ys.length := by have := HL.out; omega
        by_cases he : x = y
        · subst he
          have hb : (x != x) = false := by simp
          go_wp2
          go_quiet (fail)
          go_wp2
          go_roundw
          case rel => exact ⟨k + 1, by omega, by go_num, take_ext HT.out hxk.out hyk.out, hq.drewN _⟩
          case measure => simp [intOf]; omega
        · have hb : (x != y) = true := by simp [he]
          have HE := Lib.hid he
          clear he
          go_wp2
          go_quiet (fail)
          go_wp2
          go_ret
          refine ⟨?_, hq.drewN _⟩
          have hne : ¬ xs = ys := by
            rintro rfl
            exact HE.out (by have := hxk.out.symm.trans hyk.out; injection this)
          simp [hne]
      · go_wp2
        go_ret
        refine ⟨?_, hq⟩
        have h1 := HT.out
        rw [List.take_of_length_le (by omega), List.take_of_length_le (by omega)] at h1
        simp [h1]
  · have hne : ((xs.length : Int) != (ys.length : Int)) = true := by simp; omega
    go_enter Tryd.func23, Tryd.ntmps23
    go_wp2
    go_ret
    exact ⟨by simp; intro h; exact hl (by rw [h]), Qt.refl _⟩
def sizes (l : List ByteArray) : Nat := (l.map ByteArray.size).sum
theorem sizes_one {l : List ByteArray} {k : Nat} {x : ByteArray} (h : l[k]? = some x) : sizes (l.take (k + 1)) = sizes (l.take k) + x.size := by
  unfold sizes; rw [take_one h, List.map_append, List.sum_append]; simp
theorem sizes_bd {l : List ByteArray} (h : ∀ x ∈ l, x.size ≤ 140737488351232) (k : Nat) : sizes (l.take k) ≤ k * 140737488351232 := by
  induction k with
  | zero => simp [sizes]
  | succ k ih =>
    by_cases hk : k < l.length
    · have hx : l[k]? = some l[k] := List.getElem?_eq_getElem hk
      rw [sizes_one hx]
      have := h _ (List.getElem_mem hk)
      omega
    · rw [List.take_of_length_le (by omega)]
      rw [List.take_of_length_le (by omega)] at ih
      exact Nat.le_trans ih (Nat.mul_le_mul_right _ (Nat.le_succ k))
theorem sizes_mem {l : List ByteArray} {x : ByteArray} (h : x ∈ l) : x.size ≤ sizes l := by
  induction l with
  | nil => cases h
  | cons y l ih =>
    unfold sizes at *
    rw [List.map_cons, List.sum_cons]
    rcases List.mem_cons.1 h with rfl | h
    · omega
    · have := ih h; omega
def lightB (l : List ByteArray) : Bool := decide (l.length ≤ 100) && decide (sizes l ≤ 3000)
theorem lightB_iff {l : List ByteArray} : lightB l = true ↔ l.length ≤ 100 ∧ sizes l ≤ 3000 := by simp [lightB]
set_option maxRecDepth 100000 in
set_option maxHeartbeats 1000000 in
theorem light_any (l : List ByteArray) (v : Value) (w : World) (hl : Rep.str.slice.R w (Lt w) l [v]) (hz : SliceZ (fun s : ByteArray => s.size ≤ 140737488351232) l) :
    Calls Tryd.prog 18 #[v] w fun e w' => e = .returned (.bool (lightB l)) ∧ w = w' := by
  obtain ⟨A, c, rfl, hm, _⟩ := slice_inv hl
  have HZ := Lib.hid hz.2
  clear hz
  go_enter Tryd.func18, Tryd.ntmps18
  go_wp2
  go_loop [3, 4] (fun n i => ∃ k : Nat, k ≤ l.length ∧ k ≤ 101 ∧ i = .int .i64 k ∧ n = .int .i64 (sizes (l.take k))) (fun _ i => min l.length 101 - (intOf i).toNat)
  case atStart => exact ⟨0, Nat.zero_le _, Nat.zero_le _, rfl, rfl⟩
  case round =>
    obtain ⟨k, hk, hk2, rfl, rfl⟩ := hrel
    have hsb := sizes_bd HZ.out k
    by_cases hlt : k < l.length
    · by_cases hlt2 : k < 101
      · obtain ⟨b, off, x, rfl, hx, -, hc, hx1⟩ := strs_at hl hlt
        have HS := Lib.hid (sizes_one hx.out)
        have hx2 : x.size ≤ 140737488351232 := HZ.out x (List.mem_of_getElem? hx.out)
        generalize sizes (l.take k) = t at *
        go_wp2
        go_round
        case rel => exact ⟨k + 1, by omega, by omega, by go_num, by rw [HS.out]; go_num⟩
        case measure => simp [intOf]; omega
      · have HE : Hid (lightB l = false) := by show lightB l = _; unfold lightB; rw [decide_eq_false (by omega)]; rfl
        have h3 : ¬ l.length ≤ 100 := by omega
        generalize sizes (l.take k) = t at *
        go_wp2
        go_ret
        exact ⟨ret_bool (by rw [HE.out]), by trivial⟩
    · have hke : l.take k = l := List.take_of_length_le (by omega)
      rw [hke] at hsb ⊢
      clear hke
      by_cases h3 : l.length ≤ 100
      · have HE : Hid (lightB l = decide (sizes l ≤ 3000)) := by show lightB l = _; unfold lightB; rw [decide_eq_true h3]; rfl
        by_cases h4 : sizes l ≤ 3000
        · have HE' : Hid (lightB l = true) := by show _ = _; rw [HE.out, decide_eq_true h4]
          clear HE
          generalize sizes l = t at *
          go_wp2
          go_ret
          exact ⟨ret_bool (by rw [HE'.out]; exact decide_eq_true (by omega)), by trivial⟩
        · have HE' : Hid (lightB l = false) := by show _ = _; rw [HE.out, decide_eq_false h4]
          clear HE
          generalize sizes l = t at *
          go_wp2
          go_ret
          exact ⟨ret_bool (by rw [HE'.out]; exact decide_eq_false (by omega)), by trivial⟩
      · have HE : Hid (lightB l = false) := by show lightB l = _; unfold lightB; rw [decide_eq_false h3]; rfl
        generalize sizes l = t at *
        go_wp2
        go_ret
        exact ⟨ret_bool (by rw [HE.out]), by trivial⟩
end Go.Proofs.YtejlmdkbcjkkhaaDoor

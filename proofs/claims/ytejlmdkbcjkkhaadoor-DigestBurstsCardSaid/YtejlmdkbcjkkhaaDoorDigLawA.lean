/- Chapter 06: the laws DigestCrcs, DigestHashes, DigestRoots, DigestPaths, by walking their text. -/
import Derived.Test.YtejlmdkbcjkkhaaDoorDigAwake
namespace Go.Proofs.YtejlmdkbcjkkhaaDoor
open Go Go.RowKit Go.ChangeShapes

def StrZ (s : ByteArray) : Prop := s.size ≤ 140737488351232
theorem opens_s : OpensZ Tryd.prog 9 Rep.str StrZ := opensZ_str Tryd.underlying9
theorem opens_u : OpensZ Tryd.prog 26 Rep.u64 (fun _ => True) := opensZ_of (opens_u64 Tryd.underlying26)
theorem opens_i : OpensZ Tryd.prog 3 Rep.int (fun _ => True) := opensZ_of (opens_int Tryd.underlying3)
theorem opens_ss : OpensZ Tryd.prog 30 Rep.str.slice (SliceZ StrZ) := opensZ_slice Tryd.underlying30 (by kernel_rfl) (by decide) (of_decide_eq_true (by kernel_rfl)) opens_s
theorem str_inv {w : World} {D : Nat → Prop} {x a : ByteArray} (h : Rep.str.R w D x (Value.string a).cells.toList) : a = x := by
  obtain ⟨e, _⟩ := h
  have e' : [Value.string a] = [Value.string x] := e
  simpa using e'
theorem u64_inv {w : World} {D : Nat → Prop} {x a : Int} (h : Rep.u64.R w D x (Value.int .u64 a).cells.toList) : a = x ∧ 0 ≤ x ∧ x ≤ 18446744073709551615 := by
  obtain ⟨e, h⟩ := h
  have e' : [Value.int .u64 a] = [Value.int .u64 x] := e
  exact ⟨by simpa using e', h⟩
theorem i64_inv {w : World} {D : Nat → Prop} {x a : Int} (h : Rep.int.R w D x (Value.int .i64 a).cells.toList) : a = x ∧ -9223372036854775808 ≤ x ∧ x ≤ 9223372036854775807 := by
  obtain ⟨e, h⟩ := h
  have e' : [Value.int .i64 a] = [Value.int .i64 x] := e
  exact ⟨by simpa using e', h⟩
set_option maxHeartbeats 1000000 in
theorem crcs_law (a x : ByteArray) (w : World) (hT : TabW w) (hs : Rep.str.R w (Lt w) x (Value.string a).cells.toList) (hz : StrZ x) : Calls Tryd.prog 3 #[.string a] w (Ret (.bool true) w) := by
  obtain rfl := str_inv hs
  clear hs
  have hz' : a.size ≤ 140737488351232 := hz
  have HT := Lib.hid hT
  clear hz hT
  by_cases h : 3000 < a.size
  · go_enter Tryd.func3, Tryd.ntmps3
    go_wp2_with (go_at_call 13; refine (awake_any _ HT.out).mono ?_; rintro e w1 ⟨rfl, hb⟩)
    go_ret
    exact ⟨rfl, hb⟩
  · have hb := beq_self_int (crcL a.data.toList : Int)
    go_enter Tryd.func3, Tryd.ntmps3
    go_wp2_with fail
    refine (crc_any _ _ (by omega) HT.out).mono ?_
    rintro e w1 ⟨rfl, rfl⟩
    go_wp2_with fail
    refine (refCrc_any _ _ (by omega)).mono ?_
    rintro e w1 ⟨rfl, rfl⟩
    go_wp2_with (go_at_call 13; refine (awake_any _ HT.out).mono ?_; rintro e w1 ⟨rfl, hb⟩)
    go_ret
    exact ⟨rfl, hb⟩
set_option maxHeartbeats 1000000 in
theorem hashes_law (a : ByteArray) (b c : Int) (x : ByteArray) (b' c' : Int) (w : World) (hT : TabW w) (hs : Rep.str.R w (Lt w) x (Value.string a).cells.toList) (hz : StrZ x)
    (hb : Rep.u64.R w (Lt w) b' (Value.int .u64 b).cells.toList) (_ : True) (hc : Rep.u64.R w (Lt w) c' (Value.int .u64 c).cells.toList) (_ : True) : Calls Tryd.prog 4 #[.string a, .int .u64 b, .int .u64 c] w (Ret (.bool true) w) := by
  obtain rfl := str_inv hs
  obtain ⟨rfl, p0, p1⟩ := u64_inv hb
  obtain ⟨rfl, q0, q1⟩ := u64_inv hc
  clear hs hb hc
  have hz' : a.size ≤ 140737488351232 := hz
  have HT := Lib.hid hT
  clear hz hT
  have eP := beq_self_int (pairL b c)
  by_cases h : 3000 < a.size
  · go_enter Tryd.func4, Tryd.ntmps4
    go_wp2_with fail
    refine (pair_any _ _ _ p0 p1 q0 q1).mono ?_
    rintro e w1 ⟨rfl, hb1⟩
    go_wp2_with fail
    refine (refPair_any _ _ _ p0 p1 q0 q1).mono ?_
    rintro e w2 ⟨rfl, hb2⟩
    have hw := bstep hb1 hb1.size hb2
    clear hb1 hb2
    go_wp2_with (go_at_call 13; refine (awake_any _ (HT.out.below hw)).mono ?_; rintro e w1 ⟨rfl, hb⟩)
    go_ret
    exact ⟨rfl, bstep hw hw.size hb⟩
  · have hbH := beq_self_int (hashL a.data.toList : Int)
    go_enter Tryd.func4, Tryd.ntmps4
    go_wp2_with fail
    refine (hash_any _ _ (by omega)).mono ?_
    rintro e w1 ⟨rfl, rfl⟩
    go_wp2_with fail
    refine (refHash_any _ _ (by omega)).mono ?_
    rintro e w1 ⟨rfl, rfl⟩
    go_wp2_with fail
    refine (pair_any _ _ _ p0 p1 q0 q1).mono ?_
    rintro e w1 ⟨rfl, hb1⟩
    go_wp2_with fail
    refine (refPair_any _ _ _ p0 p1 q0 q1).mono ?_
    rintro e w2 ⟨rfl, hb2⟩
    have hw := bstep hb1 hb1.size hb2
    clear hb1 hb2
    go_wp2_with (go_at_call 13; refine (awake_any _ (HT.out.below hw)).mono ?_; rintro e w1 ⟨rfl, hb⟩)
    go_ret
    exact ⟨rfl, bstep hw hw.size hb⟩
theorem light_sm {l : List ByteArray} (h : lightB l = true) : l.length ≤ 100 ∧ Sm l := by
  obtain ⟨h1, h2⟩ := lightB_iff.1 h
  exact ⟨h1, fun s hs => by have := sizes_mem hs; omega⟩
set_option maxHeartbeats 1000000 in
theorem roots_law (v : Value) (l : List ByteArray) (w : World) (hT : TabW w) (hl : Rep.str.slice.R w (Lt w) l [v]) (hz : SliceZ StrZ l) : Calls Tryd.prog 5 #[v] w (Ret (.bool true) w) := by
  have HT := Lib.hid hT
  clear hT
  cases hli : lightB l
  · go_enter Tryd.func5, Tryd.ntmps5
    go_wp2_with fail
    refine (light_any _ _ _ hl hz).mono ?_
    rw [hli]
    rintro e w1 ⟨rfl, rfl⟩
    go_wp2_with (go_at_call 13; refine (awake_any _ HT.out).mono ?_; rintro e w1 ⟨rfl, hb⟩)
    go_ret
    exact ⟨rfl, hb⟩
  · obtain ⟨h100, hsm⟩ := light_sm hli
    have hbR := beq_self_int (rootL l)
    go_enter Tryd.func5, Tryd.ntmps5
    go_wp2_with fail
    refine (light_any _ _ _ hl hz).mono ?_
    rw [hli]
    rintro e w1 ⟨rfl, rfl⟩
    clear hli hz
    go_wp2_with fail
    refine (root_any _ _ _ _ (Nat.le_refl _) hl hsm).mono ?_
    rintro e w1 ⟨rfl, hb1⟩
    go_wp2_with fail
    refine (refRoot_any _ _ _ _ (Nat.le_refl _) (Rep.below hl hb1) hsm).mono ?_
    rintro e w2 ⟨rfl, hb2⟩
    have hw := bstep hb1 hb1.size hb2
    clear hb1 hb2
    go_wp2_with (go_at_call 13; refine (awake_any _ (HT.out.below hw)).mono ?_; rintro e w1 ⟨rfl, hb⟩)
    go_ret
    exact ⟨rfl, bstep hw hw.size hb⟩
end Go.Proofs.YtejlmdkbcjkkhaaDoor

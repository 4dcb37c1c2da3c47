/- Chapter 06: the law DigestBursts, by walking its text. -/
import Derived.Test.YtejlmdkbcjkkhaaDoorDigLawA
import Derived.Test.YtejlmdkbcjkkhaaDoorDigLawD
import Derived.Test.YtejlmdkbcjkkhaaDoorDigBurst
import Derived.Deep.DeepCutAuto
import Derived.RegionTactic
import Derived.Test.YtejlmdkbcjkkhaaDoorRegion
namespace Go.Proofs.YtejlmdkbcjkkhaaDoor
open Go Go.RowKit Go.ChangeShapes

/-- a row of bytes that the call made of a string. -/
def ByR (w : World) (g : Nat) (l : List UInt8) : Prop := ∃ (cs : Array Value) (fr : Nat × Nat), w.heap[g]? = some (.cells cs 5 fr) ∧ l.length ≤ fr.1 ∧ ∀ (i : Nat) (x : UInt8), l[i]? = some x → cs[i]? = some (.int .u8 (x.toNat : Int))
section
variable {w w' : World} {g : Nat} {l : List UInt8}
theorem ByR.lt (h : ByR w g l) : g < w.heap.size := by
  obtain ⟨cs, fr, h, _⟩ := h
  rcases Nat.lt_or_ge g w.heap.size with hlt | hge
  · exact hlt
  · rw [Array.getElem?_eq_none hge] at h; cases h
theorem ByR.new (w : World) (s : ByteArray) (cap : Nat) : ByR (w.alloc (.cells (bytesRow s cap) 5 ((bytesRow s cap).size, (bytesRow s cap).size + 1))) w.heap.size s.data.toList := by
  refine ⟨_, _, heap_alloc_new w _, ?_, fun i x hx => ?_⟩
  · simp [bytesRow]
  · have hi := lt_of_get hx
    have hi' : i < s.data.size := by simpa using hi
    unfold bytesRow
    rw [Array.getElem?_append_left (by simpa using hi'), Array.getElem?_map]
    have : s.data[i]? = some x := by rw [← Array.getElem?_toList]; exact hx
    rw [this]; rfl
theorem ByR.cell (h : ByR w g l) {i : Nat} {x : UInt8} (hx : l[i]? = some x) : w.cell? ⟨g, i, none⟩ = some (.int .u8 (x.toNat : Int)) := by
  obtain ⟨cs, fr, h, _, hc⟩ := h
  rw [cell_of_row w g i cs _ fr h]; exact hc i x hx
theorem ByR.free (h : ByR w g l) {i : Nat} (hi : i < l.length) : w.frozen? ⟨g, i, none⟩ = false := by
  obtain ⟨cs, fr, h, hf, _⟩ := h
  have : ¬ fr.1 ≤ i := by omega
  simp [World.frozen?, h, this]
theorem ByR.set_ (h : ByR w g l) (i : Nat) (x : UInt8) : ByR (w.setCell ⟨g, i, none⟩ (.int .u8 (x.toNat : Int))) g (l.set i x) := by
  obtain ⟨cs, fr, h, hf, hc⟩ := h
  refine ⟨cs.setIfInBounds i (.int .u8 (x.toNat : Int)), fr, ?_, by rw [List.length_set]; exact hf, fun j y hy => ?_⟩
  · simp [World.setCell, Array.getElem?_modify, h]
  · rw [List.getElem?_set] at hy
    rw [Array.getElem?_setIfInBounds]
    split at hy
    · rename_i hij
      subst hij
      split at hy
      · rename_i hil
        have : i < cs.size := by
          have h1 := hc i l[i] (List.getElem?_eq_getElem hil)
          exact (Array.getElem?_eq_some_iff.1 h1).1
        injection hy with hy
        subst hy
        simp [this]
      · cases hy
    · rename_i hij
      rw [if_neg hij]
      exact hc j y hy
theorem ByR.keep (h : ByR w g l) (hk : w'.heap[g]? = w.heap[g]?) : ByR w' g l := by
  obtain ⟨cs, fr, h, r⟩ := h
  exact ⟨cs, fr, hk.trans h, r⟩
theorem ByR.far (h : ByR w g l) {p : Addr} (hp : g ≠ p.block) (u : Value) : ByR (w.setCell p u) g l := h.keep (Below.heap_setCell w p u g hp)
theorem ByR.alloc (h : ByR w g l) (o : Obj) : ByR (w.alloc o) g l := h.keep (Below.heap_alloc w o g h.lt)
theorem ByR.below {B : Nat} (h : ByR w g l) (hb : Below B w w') (hg : g < B) : ByR w' g l := h.keep (hb.block g hg)
theorem ByR.drew (h : ByR w g l) : ByR w.drew g l := h
theorem ByR.drewN (h : ByR w g l) (n : Nat) : ByR (w.drewN n) g l := h
theorem ByR.conv (h : ByR w g l) (n c : Nat) (hn : n = l.length) : (convert 49 9 (.slice (some ⟨g, 0, none⟩) n c)).run Tryd.prog w = .ok (.string ⟨l.toArray⟩) w := by
  subst hn
  refine run_convert_bytes_back w _ _ _ _ c l Tryd.underlying49 Tryd.underlying5 Tryd.underlying9 (fun j hj => ?_)
  have := h.cell (List.getElem?_eq_getElem hj)
  rw [← this]
  congr 1
  unfold Addr.add
  split <;> simp_all
end
structure Change where
  at_ : Int
  b0 : UInt8
  b1 : UInt8
  b2 : UInt8
  b3 : UInt8
def changeR : Rep Change := (Rep.int.pair (Rep.u8.pair (Rep.u8.pair (Rep.u8.pair Rep.u8)))).iso (fun c => (c.at_, c.b0, c.b1, c.b2, c.b3))
/-- the bytes with j of them changed. -/
def fourL (l bs : List UInt8) (k : Nat) : Nat → List UInt8
  | 0 => l
  | j + 1 => (fourL l bs k j).set (k + j) (l.getD (k + j) 0 ^^^ bs.getD j 0)
theorem fourL_len (l bs : List UInt8) (k j : Nat) : (fourL l bs k j).length = l.length := by
  induction j with
  | zero => rfl
  | succ j ih => rw [fourL, List.length_set, ih]
theorem fourL_get (l bs : List UInt8) (k : Nat) : ∀ (j i : Nat), (fourL l bs k j)[i]? = if k ≤ i ∧ i < k + j ∧ i < l.length then some (l.getD i 0 ^^^ bs.getD (i - k) 0) else l[i]?
  | 0, i => by rw [if_neg (by omega)]; rfl
  | j + 1, i => by
    rw [fourL, List.getElem?_set, fourL_len, fourL_get l bs k j i]
    by_cases h : k + j = i
    · rw [if_pos h]
      subst h
      by_cases hl : k + j < l.length
      · rw [if_pos hl, if_pos (by omega), show k + j - k = j from by omega]
      · rw [if_neg hl, if_neg (by omega), List.getElem?_eq_none (by omega)]
    · rw [if_neg h]
      by_cases h2 : k ≤ i ∧ i < k + j ∧ i < l.length
      · rw [if_pos h2, if_pos (by omega)]
      · rw [if_neg h2, if_neg (by omega)]
theorem four_window {l bl : List UInt8} {k j : Nat} (hj : j ≤ 4) : crcL (fourL l bl k j) = crcL l ↔ fourL l bl k j = l := by
  refine crc_window (k := k) (j := j) (fourL_len _ _ _ _) ?_ ?_ hj
  · apply List.ext_getElem?
    intro i
    rw [List.getElem?_take, List.getElem?_take]
    split
    · rw [fourL_get, if_neg (by omega)]
    · rfl
  · apply List.ext_getElem?
    intro i
    rw [List.getElem?_drop, List.getElem?_drop, fourL_get, if_neg (by omega)]
theorem beq_dec (x y : List UInt8) : (x == y) = decide (x = y) := by rw [Bool.eq_iff_iff]; simp
theorem beq_nat (x y : Nat) : ((x : Int) == (y : Int)) = decide (x = y) := by rw [Bool.eq_iff_iff]; simp; omega
theorem same_bool {p q : Prop} [Decidable p] [Decidable q] (h : p ↔ q) : ∃ B : Bool, decide p = B ∧ decide q = B := ⟨decide q, by simp [h], rfl⟩
theorem u8_xor (a b : UInt8) : bits .xor .u8 (a.toNat : Int) (b.toNat : Int) = ((a ^^^ b).toNat : Int) := by
  have ha := UInt8.toNat_lt a
  have hb := UInt8.toNat_lt b
  have hx : a.toNat ^^^ b.toNat < 2 ^ 8 := Nat.xor_lt_two_pow ha hb
  show IntKind.u8.wrap ((BitVec.ofInt 8 (a.toNat : Int) ^^^ BitVec.ofInt 8 (b.toNat : Int)).toNat : Int) = _
  rw [BitVec.toNat_xor, BitVec.ofInt_natCast, BitVec.ofInt_natCast, BitVec.toNat_ofNat, BitVec.toNat_ofNat, Nat.mod_eq_of_lt ha, Nat.mod_eq_of_lt hb, UInt8.toNat_xor, IntKind.wrap_u8]
  omega
theorem opens_change : OpensZ Tryd.prog 48 changeR (fun _ => True) := by
  have h := opensZ_iso (f := fun c : Change => (c.at_, c.b0, c.b1, c.b2, c.b3)) (fun x => ⟨x.1, x.2.1, x.2.2.1, x.2.2.2.1, x.2.2.2.2⟩) (fun _ => rfl)
    (opensZ_struct Tryd.underlying48 (tot := 5) (by kernel_rfl)
      (opensFZ_cons rfl (by kernel_rfl) opens_i (opensFZ_last rfl (by kernel_rfl) (opensZ_array4 Tryd.underlying46 (by kernel_rfl) (by kernel_rfl) opens_u8))))
  intro H enc W sp held fuel cs x hx hz
  obtain ⟨y, hy, _⟩ := h H enc W sp held fuel cs x hx hz
  exact ⟨y, hy, trivial⟩
theorem change_inv {w : World} {D : Nat → Prop} {c : Change} {cs : Array Value} (h : changeR.R w D c cs.toList) : cs = #[.int .i64 c.at_, .int .u8 (c.b0.toNat : Int), .int .u8 (c.b1.toNat : Int), .int .u8 (c.b2.toNat : Int), .int .u8 (c.b3.toNat : Int)] ∧ -9223372036854775808 ≤ c.at_ ∧ c.at_ ≤ 9223372036854775807 := by
  obtain ⟨a1, r1, e, ⟨rfl, h1, h2⟩, a2, r2, rfl, rfl, a3, r3, rfl, rfl, a4, r4, rfl, rfl, rfl⟩ := h
  exact ⟨by apply Array.ext'; simpa using e, h1, h2⟩
set_option maxRecDepth 100000 in
set_option maxHeartbeats 4000000 in
theorem bursts_law (a : ByteArray) (cs : Array Value) (x : ByteArray) (c : Change) (w : World) (hT : TabW w) (hs : Rep.str.R w (Lt w) x (Value.string a).cells.toList) (hz : StrZ x) (hc : changeR.R w (Lt w) c cs.toList) (_ : True) :
    Calls Tryd.prog 10 #[.string a, .agg cs] w (Ret (.bool true) w) := by
  obtain rfl := str_inv hs
  have hz' : a.size ≤ 140737488351232 := hz
  have HT := Lib.hid hT
  obtain ⟨rfl, hat⟩ := change_inv hc
  obtain ⟨at_, b0, b1, b2, b3⟩ := c
  simp only at hat
  obtain ⟨hat1, hat2⟩ := hat
  clear hs hz hT hc
  simp only
  by_cases h1 : a.size = 0
  · have e0 : ((a.size : Int) == 0) = true := ieq_t (by omega)
    have hw0 : Below w.heap.size w (w.alloc (.cells #[.int .i64 at_, .int .u8 (b0.toNat : Int), .int .u8 (b1.toNat : Int), .int .u8 (b2.toNat : Int), .int .u8 (b3.toNat : Int)] 48)) := (Below.refl _ _).alloc (Nat.le_refl _) _
    have HT2 := Lib.hid (HT.out.below hw0)
    clear h1
    go_enter Tryd.func10, Tryd.ntmps10
    go_wp2_with (go_at_call 13; refine (awake_any _ HT2.out).mono ?_; rintro e w1 ⟨rfl, hb⟩)
    go_ret
    exact ⟨rfl, bstep hw0 hw0.size hb⟩
  by_cases h2 : 3000 < a.size
  · have e0 : ((a.size : Int) == 0) = false := ieq_f (by omega)
    have hw0 : Below w.heap.size w (w.alloc (.cells #[.int .i64 at_, .int .u8 (b0.toNat : Int), .int .u8 (b1.toNat : Int), .int .u8 (b2.toNat : Int), .int .u8 (b3.toNat : Int)] 48)) := (Below.refl _ _).alloc (Nat.le_refl _) _
    have HT2 := Lib.hid (HT.out.below hw0)
    clear h1
    go_enter Tryd.func10, Tryd.ntmps10
    go_wp2_with (go_at_call 13; refine (awake_any _ HT2.out).mono ?_; rintro e w1 ⟨rfl, hb⟩)
    go_ret
    exact ⟨rfl, bstep hw0 hw0.size hb⟩
  by_cases h3 : at_ < 0
  · have e0 : ((a.size : Int) == 0) = false := ieq_f (by omega)
    have hw0 : Below w.heap.size w (w.alloc (.cells #[.int .i64 at_, .int .u8 (b0.toNat : Int), .int .u8 (b1.toNat : Int), .int .u8 (b2.toNat : Int), .int .u8 (b3.toNat : Int)] 48)) := (Below.refl _ _).alloc (Nat.le_refl _) _
    have HT2 := Lib.hid (HT.out.below hw0)
    clear h1
    go_enter Tryd.func10, Tryd.ntmps10
    go_wp2_with (go_at_call 13; refine (awake_any _ HT2.out).mono ?_; rintro e w1 ⟨rfl, hb⟩)
    go_ret
    exact ⟨rfl, bstep hw0 hw0.size hb⟩
  obtain ⟨k, hk, hkn⟩ : ∃ k : Nat, at_ % (a.size : Int) = (k : Int) ∧ k < a.size := by
    have := Int.emod_nonneg at_ (show (a.size : Int) ≠ 0 by omega)
    have := Int.emod_lt_of_pos at_ (show (0 : Int) < a.size by omega)
    exact ⟨(at_ % (a.size : Int)).toNat, by omega, by omega⟩
  have e0 : ((a.size : Int) == 0) = false := ieq_f (by omega)
  have d0 : decide ((3000 : Int) < (a.size : Int)) = false := decide_eq_false (by omega)
  have kc := fun (w : World) => run_bytes_of_string (P := Tryd.prog) w 9 49 5 a Tryd.underlying9 Tryd.underlying49 Tryd.underlying5
  go_enter Tryd.func10, Tryd.ntmps10
  go_upto_region 4 with fail
  go_cut [5, 6, 7] (fun s5 s6 s7 wx => s5 = .int .i64 (k : Int) ∧ ∃ c1 c2, s6 = .slice (some ⟨w.heap.size + 1, 0, none⟩) a.size c1 ∧ s7 = .slice (some ⟨w.heap.size + 2, 0, none⟩) a.size c2 ∧ Blk wx w.heap.size 48 #[.int .i64 at_, .int .u8 (b0.toNat : Int), .int .u8 (b1.toNat : Int), .int .u8 (b2.toNat : Int), .int .u8 (b3.toNat : Int)] ∧
    ByR wx (w.heap.size + 1) a.data.toList ∧ ByR wx (w.heap.size + 2) a.data.toList ∧ Below w.heap.size w wx)
  case first =>
    go_wp2
    go_meet
    case rel =>
      have n0 := Blk.new w 48 #[.int .i64 at_, .int .u8 (b0.toNat : Int), .int .u8 (b1.toNat : Int), .int .u8 (b2.toNat : Int), .int .u8 (b3.toNat : Int)]
      have m0 : Below w.heap.size w (w.alloc (.cells #[.int .i64 at_, .int .u8 (b0.toNat : Int), .int .u8 (b1.toNat : Int), .int .u8 (b2.toNat : Int), .int .u8 (b3.toNat : Int)] 48)) := (Below.refl _ _).alloc (Nat.le_refl _) _
      have z0 : (w.alloc (.cells #[.int .i64 at_, .int .u8 (b0.toNat : Int), .int .u8 (b1.toNat : Int), .int .u8 (b2.toNat : Int), .int .u8 (b3.toNat : Int)] 48)).heap.size = w.heap.size + 1 := by simp
      generalize w.alloc (.cells #[.int .i64 at_, .int .u8 (b0.toNat : Int), .int .u8 (b1.toNat : Int), .int .u8 (b2.toNat : Int), .int .u8 (b3.toNat : Int)] 48) = w0 at *
      generalize grownCap w0 a.size 0 5 = c1 at *
      have n1 := ByR.new w0 a c1
      rw [z0] at n1
      have m1 := m0.alloc m0.size (.cells (bytesRow a c1) 5 ((bytesRow a c1).size, (bytesRow a c1).size + 1))
      have z1 : (w0.alloc (.cells (bytesRow a c1) 5 ((bytesRow a c1).size, (bytesRow a c1).size + 1))).heap.size = w.heap.size + 2 := by simp [z0]
      have n01 := n0.alloc (.cells (bytesRow a c1) 5 ((bytesRow a c1).size, (bytesRow a c1).size + 1))
      generalize w0.alloc (.cells (bytesRow a c1) 5 ((bytesRow a c1).size, (bytesRow a c1).size + 1)) = w1 at *
      generalize grownCap w1.drew a.size 0 5 = c2 at *
      have n2 := ByR.new w1 a c2
      rw [z1] at n2
      exact ⟨rfl, c1, c2, rfl, rfl, n01.alloc _, (n1.alloc _), n2, (m1.alloc m1.size _).drew.drew⟩
  case rest =>
    obtain ⟨rfl, c1, c2, rfl, rfl, hB, hO, hF, hw⟩ := hcut
    have hlk : k < a.data.toList.length := by simpa using hkn
    obtain ⟨y, hy⟩ : ∃ y, a.data.toList[k]? = some y := ⟨_, List.getElem?_eq_getElem hlk⟩
    have k1 := hO.cell hy
    have k2 := hO.free hlk
    have k3 : wc.cell? ⟨w.heap.size, 1, none⟩ = some (.int .u8 (b0.toNat : Int)) := hB.cell 1
    have HY := Lib.hid hy
    clear hy
    have g1 : (k : Int) < (a.size : Int) := by omega
    have hx := u8_xor y b0
    go_wp2_with fail
    go_region
    have hB1 : Blk ((wc.setCell ⟨w.heap.size + 1, k, none⟩ (.int .u8 ((y ^^^ b0).toNat : Int))).drew) w.heap.size 48 _ := (hB.far (p := ⟨w.heap.size + 1, k, none⟩) (by simp) _).drewN 1
    have hO1 := (hO.set_ k (y ^^^ b0)).drew
    have hF1 := (hF.far (p := ⟨w.heap.size + 1, k, none⟩) (by simp) (.int .u8 ((y ^^^ b0).toNat : Int))).drew
    have hw1 := (hw.setCell (p := ⟨w.heap.size + 1, k, none⟩) (by simp) (.int .u8 ((y ^^^ b0).toNat : Int))).drew
    clear hB hO hF hw k1 k2 k3 hx
    go_wp2
    obtain ⟨bl, hbl⟩ : ∃ bl, bl = [b0, b1, b2, b3] := ⟨_, rfl⟩
    have hbs : ∀ j, j < 4 → ∃ b, bl.getD j 0 = b ∧ ∀ W, Blk W w.heap.size 48 #[.int .i64 at_, .int .u8 (b0.toNat : Int), .int .u8 (b1.toNat : Int), .int .u8 (b2.toNat : Int), .int .u8 (b3.toNat : Int)] → W.cell? ⟨w.heap.size, 1 + j, none⟩ = some (.int .u8 (b.toNat : Int)) := by
      intro j hj
      subst hbl
      match j, hj with
      | 0, _ => exact ⟨b0, rfl, fun W h => h.cell 1⟩
      | 1, _ => exact ⟨b1, rfl, fun W h => h.cell 2⟩
      | 2, _ => exact ⟨b2, rfl, fun W h => h.cell 3⟩
      | 3, _ => exact ⟨b3, rfl, fun W h => h.cell 4⟩
    have HBS := Lib.hid hbs
    have HBL := Lib.hid hbl
    clear hbs hbl
    go_loopw [8] (fun i W => ∃ j : Nat, j ≤ 4 ∧ k + j ≤ a.size ∧ i = .int .i64 (j : Int) ∧ Blk W w.heap.size 48 #[.int .i64 at_, .int .u8 (b0.toNat : Int), .int .u8 (b1.toNat : Int), .int .u8 (b2.toNat : Int), .int .u8 (b3.toNat : Int)] ∧
      ByR W (w.heap.size + 1) (a.data.toList.set k (y ^^^ b0)) ∧ ByR W (w.heap.size + 2) (fourL a.data.toList bl k j) ∧ Below w.heap.size w W) (fun i _ => 4 - (intOf i).toNat)
    case atStart => exact ⟨0, by omega, by omega, rfl, hB1, hO1, hF1, hw1⟩
    case round =>
      clear hB1 hO1 hF1 hw1
      obtain ⟨j, hj4, hjn, rfl, hB, hO, hF, hw⟩ := hrel
      by_cases hlt : j < 4 ∧ k + j < a.size
      · obtain ⟨hlt1, hlt2⟩ := hlt
        have hlk2 : k + j < a.data.toList.length := by simpa using hlt2
        obtain ⟨x, hx⟩ : ∃ x, a.data.toList[k + j]? = some x := ⟨_, List.getElem?_eq_getElem hlk2⟩
        have hx4 : (fourL a.data.toList bl k j)[k + j]? = some x := by rw [fourL_get, if_neg (by omega)]; exact hx
        obtain ⟨b, hb, hbc⟩ := HBS.out j hlt1
        have k3 := hbc _ hB
        have k1 := hF.cell hx4
        have k2 := hF.free (i := k + j) (by rw [fourL_len]; exact hlk2)
        have HX : Hid (fourL a.data.toList bl k (j + 1) = (fourL a.data.toList bl k j).set (k + j) (x ^^^ b)) := by show _ = _; rw [fourL, hb, getD_of' hx]
        have hxx := u8_xor x b
        have g1 : (k : Int) + (j : Int) < (a.size : Int) := by omega
        have g2 : (j : Int) < 4 := by omega
        have g3 : ((k : Int) + (j : Int)).toNat = k + j := by omega
        clear hx hx4 hb hbc hlk2
        go_wp2_with fail
        go_region
        have hB2 := (hB.far (p := ⟨w.heap.size + 2, k + j, none⟩) (by simp) (.int .u8 ((x ^^^ b).toNat : Int))).drewN 1
        have hO2 := (hO.far (p := ⟨w.heap.size + 2, k + j, none⟩) (by simp) (.int .u8 ((x ^^^ b).toNat : Int))).drew
        have hF2 := (hF.set_ (k + j) (x ^^^ b)).drew
        have hw2 := (hw.setCell (p := ⟨w.heap.size + 2, k + j, none⟩) (by simp) (.int .u8 ((x ^^^ b).toNat : Int))).drew
        clear hB hO hF hw k1 k2 k3 hxx g3
        go_wp2
        go_roundw
        case rel => exact ⟨j + 1, by omega, by omega, by go_num, hB2, hO2, by rw [HX.out]; exact hF2, hw2⟩
        case measure => simp [intOf]; omega
      · have hend : Hid (j = 4 ∨ k + j = a.size) := by show j = 4 ∨ k + j = a.size; omega
        have hon : (a.data.toList.set k (y ^^^ b0)).length = a.size := by rw [List.length_set]; simp
        have hfo : (fourL a.data.toList bl k j).length = a.size := by rw [fourL_len]; simp
        obtain ⟨B1, f1, f2⟩ := same_bool (hash_set HY.out (y ^^^ b0))
        obtain ⟨B2, f3, f4⟩ := same_bool (four_window (l := a.data.toList) (bl := bl) (k := k) hj4)
        generalize a.data.toList.set k (y ^^^ b0) = one at *
        generalize fourL a.data.toList bl k j = fo at *
        have e1 : (hashL one == hashL a.data.toList) = B1 := f1
        have e2 : (one == a.toList) = B1 := by rw [ByteArray.toList_eq, ← f2]; exact beq_dec _ _
        have e3 : (crcL fo == crcL a.data.toList) = B2 := f3
        have e4 : (fo == a.toList) = B2 := by rw [ByteArray.toList_eq, ← f4]; exact beq_dec _ _
        have e5 : (((crcL fo : Nat) : Int) == ((crcL a.data.toList : Nat) : Int)) = B2 := by rw [← f3]; exact beq_nat _ _
        clear f1 f2 f3 f4
        have q1 := hO.conv a.size c1 hon.symm
        have q2 := hF.conv a.size c2 hfo.symm
        have hs1 : ({ data := one.toArray } : ByteArray).size ≤ 3000 := by rw [size_of_list, hon]; omega
        have hs2 : ({ data := fo.toArray } : ByteArray).size ≤ 3000 := by rw [size_of_list, hfo]; omega
        have HON := Lib.hid hon
        have HFO := Lib.hid hfo
        clear hon hfo
        have HT2 := Lib.hid (HT.out.below hw.drew)
        rcases Classical.em ((j : Int) < 4) with hj | hj
        · have hjk : ¬ (k : Int) + (j : Int) < (a.size : Int) := by omega
          clear hlt
          go_wp2
          refine wp_region_held_drew (S := fun W => Below wr.heap.size wr W ∧ (convert 49 9 (.slice (some ⟨w.heap.size + 1, 0, none⟩) a.size c1)).run Tryd.prog W = .ok (.string ⟨one.toArray⟩) W ∧ (convert 49 9 (.slice (some ⟨w.heap.size + 2, 0, none⟩) a.size c2)).run Tryd.prog W = .ok (.string ⟨fo.toArray⟩) W) (by kernel_rfl) (⟨(Below.refl _ _).drew, hO.drew.conv a.size c1 HON.out.symm, hF.drew.conv a.size c2 HFO.out.symm⟩) (fun hH => ?_)
          refine take_run (i := 0) (v := ?_) (by decide) (by kernel_rfl) (by kernel_rfl) (by kernel_rfl) (fun _ _ _ _ h => h) hH rfl ?_ ?_
          rotate_left
          · (intro w hSw; (try dsimp only at hSw); (try go_split_ands); simp only [List.getElem_toArray, List.getElem_cons_zero]; go_simp; try with_reducible rfl)
          simp (config := { failIfUnchanged := false }) only [Act.put, List.setIfInBounds_toArray, List.set_cons_zero, List.set_cons_succ, List.getElem_toArray, List.getElem_cons_zero, List.getElem_cons_succ]
          refine take_run (i := 1) (v := ?_) (by decide) (by kernel_rfl) (by kernel_rfl) (by kernel_rfl) (fun _ _ _ _ h => h) hH rfl ?_ ?_
          rotate_left
          · (intro w hSw; (try dsimp only at hSw); (try go_split_ands); simp only [List.getElem_toArray, List.getElem_cons_zero, List.getElem_cons_succ]; go_simp; try with_reducible rfl)
          simp (config := { failIfUnchanged := false }) only [Act.put, List.setIfInBounds_toArray, List.set_cons_zero, List.set_cons_succ, List.getElem_toArray, List.getElem_cons_zero, List.getElem_cons_succ]
          refine take_run (i := 3) (v := ?_) (by decide) (by kernel_rfl) (by kernel_rfl) (by kernel_rfl) (fun _ _ _ _ h => h) hH rfl ?_ ?_
          rotate_left
          · (intro w hSw; (try dsimp only at hSw); (try go_split_ands); simp only [List.getElem_toArray, List.getElem_cons_zero, List.getElem_cons_succ]; go_simp; try with_reducible rfl)
          simp (config := { failIfUnchanged := false }) only [Act.put, List.setIfInBounds_toArray, List.set_cons_zero, List.set_cons_succ, List.getElem_toArray, List.getElem_cons_zero, List.getElem_cons_succ]
          refine take_run (i := 6) (v := ?_) (by decide) (by kernel_rfl) (by kernel_rfl) (by kernel_rfl) (fun _ _ _ _ h => h) hH rfl ?_ ?_
          rotate_left
          · (intro w hSw; (try dsimp only at hSw); (try go_split_ands); simp only [List.getElem_toArray, List.getElem_cons_zero, List.getElem_cons_succ]; go_simp; try with_reducible rfl)
          simp (config := { failIfUnchanged := false }) only [Act.put, List.setIfInBounds_toArray, List.set_cons_zero, List.set_cons_succ, List.getElem_toArray, List.getElem_cons_zero, List.getElem_cons_succ]
          refine take_run (i := 7) (v := ?_) (by decide) (by kernel_rfl) (by kernel_rfl) (by kernel_rfl) (fun _ _ _ _ h => h) hH rfl ?_ ?_
          rotate_left
          · (intro w hSw; (try dsimp only at hSw); (try go_split_ands); simp only [List.getElem_toArray, List.getElem_cons_zero, List.getElem_cons_succ]; go_simp; try with_reducible rfl)
          simp (config := { failIfUnchanged := false }) only [Act.put, List.setIfInBounds_toArray, List.set_cons_zero, List.set_cons_succ, List.getElem_toArray, List.getElem_cons_zero, List.getElem_cons_succ]
          refine take_run (i := 8) (v := ?_) (by decide) (by kernel_rfl) (by kernel_rfl) (by kernel_rfl) (fun _ _ _ _ h => h) hH rfl ?_ ?_
          rotate_left
          · (intro w hSw; (try dsimp only at hSw); (try go_split_ands); simp only [List.getElem_toArray, List.getElem_cons_zero, List.getElem_cons_succ]; go_simp; try with_reducible rfl)
          simp (config := { failIfUnchanged := false }) only [Act.put, List.setIfInBounds_toArray, List.set_cons_zero, List.set_cons_succ, List.getElem_toArray, List.getElem_cons_zero, List.getElem_cons_succ]
          refine take_run (i := 9) (v := ?_) (by decide) (by kernel_rfl) (by kernel_rfl) (by kernel_rfl) (fun _ _ _ _ h => h) hH rfl ?_ ?_
          rotate_left
          · (intro w hSw; (try dsimp only at hSw); (try go_split_ands); simp only [List.getElem_toArray, List.getElem_cons_zero, List.getElem_cons_succ]; go_simp; try with_reducible rfl)
          simp (config := { failIfUnchanged := false }) only [Act.put, List.setIfInBounds_toArray, List.set_cons_zero, List.set_cons_succ, List.getElem_toArray, List.getElem_cons_zero, List.getElem_cons_succ]
          refine take_call (i := 2) (by decide) (by kernel_rfl) (fun K hK => ?_)
          simp only [List.getElem_toArray, List.getElem_cons_zero, List.getElem_cons_succ]
          go_simp
          go_at_call 14
          refine (hash_any _ _ (by omega)).mono ?_
          rintro e w1 ⟨rfl, rfl⟩
          have hS := hH
          refine hK.out _ _ hS (fun hH => ?_)
          clear hK K hS
          try simp (config := { failIfUnchanged := false }) only [Act.put, List.setIfInBounds_toArray, List.set_cons_zero, List.set_cons_succ, List.getElem_toArray, List.getElem_cons_zero, List.getElem_cons_succ]
          refine take_call (i := 4) (by decide) (by kernel_rfl) (fun K hK => ?_)
          simp only [List.getElem_toArray, List.getElem_cons_zero, List.getElem_cons_succ]
          go_simp
          go_at_call 14
          refine (hash_any _ _ (by omega)).mono ?_
          rintro e w1 ⟨rfl, rfl⟩
          have hS := hH
          refine hK.out _ _ hS (fun hH => ?_)
          clear hK K hS
          try simp (config := { failIfUnchanged := false }) only [Act.put, List.setIfInBounds_toArray, List.set_cons_zero, List.set_cons_succ, List.getElem_toArray, List.getElem_cons_zero, List.getElem_cons_succ]
          refine take_run (i := 5) (v := ?_) (by decide) (by kernel_rfl) (by kernel_rfl) (by kernel_rfl) (fun _ _ _ _ h => h) hH rfl ?_ ?_
          rotate_left
          · (intro w hSw; (try dsimp only at hSw); (try go_split_ands); simp only [List.getElem_toArray, List.getElem_cons_zero, List.getElem_cons_succ]; go_simp; try with_reducible rfl)
          simp (config := { failIfUnchanged := false }) only [Act.put, List.setIfInBounds_toArray, List.set_cons_zero, List.set_cons_succ, List.getElem_toArray, List.getElem_cons_zero, List.getElem_cons_succ]
          refine take_run (i := 10) (v := ?_) (by decide) (by kernel_rfl) (by kernel_rfl) (by kernel_rfl) (fun _ _ _ _ h => h) hH rfl ?_ ?_
          rotate_left
          · (intro w hSw; (try dsimp only at hSw); (try go_split_ands); simp only [List.getElem_toArray, List.getElem_cons_zero, List.getElem_cons_succ]; go_simp; try with_reducible rfl)
          simp (config := { failIfUnchanged := false }) only [Act.put, List.setIfInBounds_toArray, List.set_cons_zero, List.set_cons_succ, List.getElem_toArray, List.getElem_cons_zero, List.getElem_cons_succ]
          refine take_run (i := 11) (v := ?_) (by decide) (by kernel_rfl) (by kernel_rfl) (by kernel_rfl) (fun _ _ _ _ h => h) hH rfl ?_ ?_
          rotate_left
          · (intro w hSw; (try dsimp only at hSw); (try go_split_ands); simp only [List.getElem_toArray, List.getElem_cons_zero, List.getElem_cons_succ]; go_simp; try with_reducible rfl)
          simp (config := { failIfUnchanged := false }) only [Act.put, List.setIfInBounds_toArray, List.set_cons_zero, List.set_cons_succ, List.getElem_toArray, List.getElem_cons_zero, List.getElem_cons_succ]
          refine take_run (i := 12) (v := ?_) (by decide) (by kernel_rfl) (by kernel_rfl) (by kernel_rfl) (fun _ _ _ _ h => h) hH rfl ?_ ?_
          rotate_left
          · (intro w hSw; (try dsimp only at hSw); (try go_split_ands); simp only [List.getElem_toArray, List.getElem_cons_zero, List.getElem_cons_succ]; go_simp; try with_reducible rfl)
          simp (config := { failIfUnchanged := false }) only [Act.put, List.setIfInBounds_toArray, List.set_cons_zero, List.set_cons_succ, List.getElem_toArray, List.getElem_cons_zero, List.getElem_cons_succ]
          refine take_run (i := 13) (v := ?_) (by decide) (by kernel_rfl) (by kernel_rfl) (by kernel_rfl) (fun _ _ _ _ h => h) hH rfl ?_ ?_
          rotate_left
          · (intro w hSw; (try dsimp only at hSw); (try go_split_ands); simp only [List.getElem_toArray, List.getElem_cons_zero, List.getElem_cons_succ]; go_simp; try with_reducible rfl)
          simp (config := { failIfUnchanged := false }) only [Act.put, List.setIfInBounds_toArray, List.set_cons_zero, List.set_cons_succ, List.getElem_toArray, List.getElem_cons_zero, List.getElem_cons_succ]
          refine take_run (i := 15) (v := ?_) (by decide) (by kernel_rfl) (by kernel_rfl) (by kernel_rfl) (fun _ _ _ _ h => h) hH rfl ?_ ?_
          rotate_left
          · (intro w hSw; (try dsimp only at hSw); (try go_split_ands); simp only [List.getElem_toArray, List.getElem_cons_zero, List.getElem_cons_succ]; go_simp; try with_reducible rfl)
          simp (config := { failIfUnchanged := false }) only [Act.put, List.setIfInBounds_toArray, List.set_cons_zero, List.set_cons_succ, List.getElem_toArray, List.getElem_cons_zero, List.getElem_cons_succ]
          refine take_run (i := 18) (v := ?_) (by decide) (by kernel_rfl) (by kernel_rfl) (by kernel_rfl) (fun _ _ _ _ h => h) hH rfl ?_ ?_
          rotate_left
          · (intro w hSw; (try dsimp only at hSw); (try go_split_ands); simp only [List.getElem_toArray, List.getElem_cons_zero, List.getElem_cons_succ]; go_simp; try with_reducible rfl)
          simp (config := { failIfUnchanged := false }) only [Act.put, List.setIfInBounds_toArray, List.set_cons_zero, List.set_cons_succ, List.getElem_toArray, List.getElem_cons_zero, List.getElem_cons_succ]
          refine take_run (i := 19) (v := ?_) (by decide) (by kernel_rfl) (by kernel_rfl) (by kernel_rfl) (fun _ _ _ _ h => h) hH rfl ?_ ?_
          rotate_left
          · (intro w hSw; (try dsimp only at hSw); (try go_split_ands); simp only [List.getElem_toArray, List.getElem_cons_zero, List.getElem_cons_succ]; go_simp; try with_reducible rfl)
          simp (config := { failIfUnchanged := false }) only [Act.put, List.setIfInBounds_toArray, List.set_cons_zero, List.set_cons_succ, List.getElem_toArray, List.getElem_cons_zero, List.getElem_cons_succ]
          refine take_run (i := 20) (v := ?_) (by decide) (by kernel_rfl) (by kernel_rfl) (by kernel_rfl) (fun _ _ _ _ h => h) hH rfl ?_ ?_
          rotate_left
          · (intro w hSw; (try dsimp only at hSw); (try go_split_ands); simp only [List.getElem_toArray, List.getElem_cons_zero, List.getElem_cons_succ]; go_simp; try with_reducible rfl)
          simp (config := { failIfUnchanged := false }) only [Act.put, List.setIfInBounds_toArray, List.set_cons_zero, List.set_cons_succ, List.getElem_toArray, List.getElem_cons_zero, List.getElem_cons_succ]
          refine take_run (i := 21) (v := ?_) (by decide) (by kernel_rfl) (by kernel_rfl) (by kernel_rfl) (fun _ _ _ _ h => h) hH rfl ?_ ?_
          rotate_left
          · (intro w hSw; (try dsimp only at hSw); (try go_split_ands); simp only [List.getElem_toArray, List.getElem_cons_zero, List.getElem_cons_succ]; go_simp; try with_reducible rfl)
          simp (config := { failIfUnchanged := false }) only [Act.put, List.setIfInBounds_toArray, List.set_cons_zero, List.set_cons_succ, List.getElem_toArray, List.getElem_cons_zero, List.getElem_cons_succ]
          refine take_call (i := 14) (by decide) (by kernel_rfl) (fun K hK => ?_)
          simp only [List.getElem_toArray, List.getElem_cons_zero, List.getElem_cons_succ]
          go_simp
          go_at_call 11
          refine (crc_any _ _ (by omega) HT2.out).mono ?_
          rintro e w1 ⟨rfl, rfl⟩
          have hS := hH
          refine hK.out _ _ hS (fun hH => ?_)
          clear hK K hS
          try simp (config := { failIfUnchanged := false }) only [Act.put, List.setIfInBounds_toArray, List.set_cons_zero, List.set_cons_succ, List.getElem_toArray, List.getElem_cons_zero, List.getElem_cons_succ]
          refine take_call (i := 16) (by decide) (by kernel_rfl) (fun K hK => ?_)
          simp only [List.getElem_toArray, List.getElem_cons_zero, List.getElem_cons_succ]
          go_simp
          go_at_call 11
          refine (crc_any _ _ (by omega) HT2.out).mono ?_
          rintro e w1 ⟨rfl, rfl⟩
          have hS := hH
          refine hK.out _ _ hS (fun hH => ?_)
          clear hK K hS
          try simp (config := { failIfUnchanged := false }) only [Act.put, List.setIfInBounds_toArray, List.set_cons_zero, List.set_cons_succ, List.getElem_toArray, List.getElem_cons_zero, List.getElem_cons_succ]
          refine take_run (i := 17) (v := ?_) (by decide) (by kernel_rfl) (by kernel_rfl) (by kernel_rfl) (fun _ _ _ _ h => h) hH rfl ?_ ?_
          rotate_left
          · (intro w hSw; (try dsimp only at hSw); (try go_split_ands); simp only [List.getElem_toArray, List.getElem_cons_zero, List.getElem_cons_succ]; go_simp; try with_reducible rfl)
          simp (config := { failIfUnchanged := false }) only [Act.put, List.setIfInBounds_toArray, List.set_cons_zero, List.set_cons_succ, List.getElem_toArray, List.getElem_cons_zero, List.getElem_cons_succ]
          refine take_run (i := 22) (v := ?_) (by decide) (by kernel_rfl) (by kernel_rfl) (by kernel_rfl) (fun _ _ _ _ h => h) hH rfl ?_ ?_
          rotate_left
          · (intro w hSw; (try dsimp only at hSw); (try go_split_ands); simp only [List.getElem_toArray, List.getElem_cons_zero, List.getElem_cons_succ]; go_simp; try with_reducible rfl)
          simp (config := { failIfUnchanged := false }) only [Act.put, List.setIfInBounds_toArray, List.set_cons_zero, List.set_cons_succ, List.getElem_toArray, List.getElem_cons_zero, List.getElem_cons_succ]
          refine take_run (i := 23) (v := ?_) (by decide) (by kernel_rfl) (by kernel_rfl) (by kernel_rfl) (fun _ _ _ _ h => h) hH rfl ?_ ?_
          rotate_left
          · (intro w hSw; (try dsimp only at hSw); (try go_split_ands); simp only [List.getElem_toArray, List.getElem_cons_zero, List.getElem_cons_succ]; go_simp; try with_reducible rfl)
          simp (config := { failIfUnchanged := false }) only [Act.put, List.setIfInBounds_toArray, List.set_cons_zero, List.set_cons_succ, List.getElem_toArray, List.getElem_cons_zero, List.getElem_cons_succ]
          refine take_run (i := 24) (v := ?_) (by decide) (by kernel_rfl) (by kernel_rfl) (by kernel_rfl) (fun _ _ _ _ h => h) hH rfl ?_ ?_
          rotate_left
          · (intro w hSw; (try dsimp only at hSw); (try go_split_ands); simp only [List.getElem_toArray, List.getElem_cons_zero, List.getElem_cons_succ]; go_simp; try with_reducible rfl)
          simp (config := { failIfUnchanged := false }) only [Act.put, List.setIfInBounds_toArray, List.set_cons_zero, List.set_cons_succ, List.getElem_toArray, List.getElem_cons_zero, List.getElem_cons_succ]
          refine take_call (i := 25) (by decide) (by kernel_rfl) (fun K hK => ?_)
          simp only [List.getElem_toArray, List.getElem_cons_zero, List.getElem_cons_succ]
          go_simp
          go_at_call 13
          refine (awake_any _ HT2.out).mono ?_
          rintro e w1 ⟨rfl, hb⟩
          have hS : Below wr.heap.size wr w1 ∧ _ ∧ _ := ⟨bstep (Below.refl _ _).drew (Nat.le_refl _) hb, ((hO.drew.below hb hO.lt).conv a.size c1 HON.out.symm), ((hF.drew.below hb hF.lt).conv a.size c2 HFO.out.symm)⟩
          refine hK.out _ _ hS (fun hH => ?_)
          clear hK K hS
          try simp (config := { failIfUnchanged := false }) only [Act.put, List.setIfInBounds_toArray, List.set_cons_zero, List.set_cons_succ, List.getElem_toArray, List.getElem_cons_zero, List.getElem_cons_succ]
          refine take_run (i := 26) (v := ?_) (by decide) (by kernel_rfl) (by kernel_rfl) (by kernel_rfl) (fun _ _ _ _ h => h) hH rfl ?_ ?_
          rotate_left
          · (intro w hSw; (try dsimp only at hSw); (try go_split_ands); simp only [List.getElem_toArray, List.getElem_cons_zero, List.getElem_cons_succ]; go_simp; try with_reducible rfl)
          simp (config := { failIfUnchanged := false }) only [Act.put, List.setIfInBounds_toArray, List.set_cons_zero, List.set_cons_succ, List.getElem_toArray, List.getElem_cons_zero, List.getElem_cons_succ]
          refine take_run (i := 27) (v := ?_) (by decide) (by kernel_rfl) (by kernel_rfl) (by kernel_rfl) (fun _ _ _ _ h => h) hH rfl ?_ ?_
          rotate_left
          · (intro w hSw; (try dsimp only at hSw); (try go_split_ands); simp only [List.getElem_toArray, List.getElem_cons_zero, List.getElem_cons_succ]; go_simp; try with_reducible rfl)
          simp (config := { failIfUnchanged := false }) only [Act.put, List.setIfInBounds_toArray, List.set_cons_zero, List.set_cons_succ, List.getElem_toArray, List.getElem_cons_zero, List.getElem_cons_succ]
          refine wpAnyH_done (by kernel_rfl) ?_ _
          go_wp2
          go_ret
          exact ⟨rfl, bstep hw hw.size hH.1⟩
        · clear hlt
          go_wp2
          refine wp_region_held_drew (S := fun W => Below wr.heap.size wr W ∧ (convert 49 9 (.slice (some ⟨w.heap.size + 1, 0, none⟩) a.size c1)).run Tryd.prog W = .ok (.string ⟨one.toArray⟩) W ∧ (convert 49 9 (.slice (some ⟨w.heap.size + 2, 0, none⟩) a.size c2)).run Tryd.prog W = .ok (.string ⟨fo.toArray⟩) W) (by kernel_rfl) (⟨(Below.refl _ _).drew, hO.drew.conv a.size c1 HON.out.symm, hF.drew.conv a.size c2 HFO.out.symm⟩) (fun hH => ?_)
          refine take_run (i := 0) (v := ?_) (by decide) (by kernel_rfl) (by kernel_rfl) (by kernel_rfl) (fun _ _ _ _ h => h) hH rfl ?_ ?_
          rotate_left
          · (intro w hSw; (try dsimp only at hSw); (try go_split_ands); simp only [List.getElem_toArray, List.getElem_cons_zero]; go_simp; try with_reducible rfl)
          simp (config := { failIfUnchanged := false }) only [Act.put, List.setIfInBounds_toArray, List.set_cons_zero, List.set_cons_succ, List.getElem_toArray, List.getElem_cons_zero, List.getElem_cons_succ]
          refine take_run (i := 1) (v := ?_) (by decide) (by kernel_rfl) (by kernel_rfl) (by kernel_rfl) (fun _ _ _ _ h => h) hH rfl ?_ ?_
          rotate_left
          · (intro w hSw; (try dsimp only at hSw); (try go_split_ands); simp only [List.getElem_toArray, List.getElem_cons_zero, List.getElem_cons_succ]; go_simp; try with_reducible rfl)
          simp (config := { failIfUnchanged := false }) only [Act.put, List.setIfInBounds_toArray, List.set_cons_zero, List.set_cons_succ, List.getElem_toArray, List.getElem_cons_zero, List.getElem_cons_succ]
          refine take_run (i := 3) (v := ?_) (by decide) (by kernel_rfl) (by kernel_rfl) (by kernel_rfl) (fun _ _ _ _ h => h) hH rfl ?_ ?_
          rotate_left
          · (intro w hSw; (try dsimp only at hSw); (try go_split_ands); simp only [List.getElem_toArray, List.getElem_cons_zero, List.getElem_cons_succ]; go_simp; try with_reducible rfl)
          simp (config := { failIfUnchanged := false }) only [Act.put, List.setIfInBounds_toArray, List.set_cons_zero, List.set_cons_succ, List.getElem_toArray, List.getElem_cons_zero, List.getElem_cons_succ]
          refine take_run (i := 6) (v := ?_) (by decide) (by kernel_rfl) (by kernel_rfl) (by kernel_rfl) (fun _ _ _ _ h => h) hH rfl ?_ ?_
          rotate_left
          · (intro w hSw; (try dsimp only at hSw); (try go_split_ands); simp only [List.getElem_toArray, List.getElem_cons_zero, List.getElem_cons_succ]; go_simp; try with_reducible rfl)
          simp (config := { failIfUnchanged := false }) only [Act.put, List.setIfInBounds_toArray, List.set_cons_zero, List.set_cons_succ, List.getElem_toArray, List.getElem_cons_zero, List.getElem_cons_succ]
          refine take_run (i := 7) (v := ?_) (by decide) (by kernel_rfl) (by kernel_rfl) (by kernel_rfl) (fun _ _ _ _ h => h) hH rfl ?_ ?_
          rotate_left
          · (intro w hSw; (try dsimp only at hSw); (try go_split_ands); simp only [List.getElem_toArray, List.getElem_cons_zero, List.getElem_cons_succ]; go_simp; try with_reducible rfl)
          simp (config := { failIfUnchanged := false }) only [Act.put, List.setIfInBounds_toArray, List.set_cons_zero, List.set_cons_succ, List.getElem_toArray, List.getElem_cons_zero, List.getElem_cons_succ]
          refine take_run (i := 8) (v := ?_) (by decide) (by kernel_rfl) (by kernel_rfl) (by kernel_rfl) (fun _ _ _ _ h => h) hH rfl ?_ ?_
          rotate_left
          · (intro w hSw; (try dsimp only at hSw); (try go_split_ands); simp only [List.getElem_toArray, List.getElem_cons_zero, List.getElem_cons_succ]; go_simp; try with_reducible rfl)
          simp (config := { failIfUnchanged := false }) only [Act.put, List.setIfInBounds_toArray, List.set_cons_zero, List.set_cons_succ, List.getElem_toArray, List.getElem_cons_zero, List.getElem_cons_succ]
          refine take_run (i := 9) (v := ?_) (by decide) (by kernel_rfl) (by kernel_rfl) (by kernel_rfl) (fun _ _ _ _ h => h) hH rfl ?_ ?_
          rotate_left
          · (intro w hSw; (try dsimp only at hSw); (try go_split_ands); simp only [List.getElem_toArray, List.getElem_cons_zero, List.getElem_cons_succ]; go_simp; try with_reducible rfl)
          simp (config := { failIfUnchanged := false }) only [Act.put, List.setIfInBounds_toArray, List.set_cons_zero, List.set_cons_succ, List.getElem_toArray, List.getElem_cons_zero, List.getElem_cons_succ]
          refine take_call (i := 2) (by decide) (by kernel_rfl) (fun K hK => ?_)
          simp only [List.getElem_toArray, List.getElem_cons_zero, List.getElem_cons_succ]
          go_simp
          go_at_call 14
          refine (hash_any _ _ (by omega)).mono ?_
          rintro e w1 ⟨rfl, rfl⟩
          have hS := hH
          refine hK.out _ _ hS (fun hH => ?_)
          clear hK K hS
          try simp (config := { failIfUnchanged := false }) only [Act.put, List.setIfInBounds_toArray, List.set_cons_zero, List.set_cons_succ, List.getElem_toArray, List.getElem_cons_zero, List.getElem_cons_succ]
          refine take_call (i := 4) (by decide) (by kernel_rfl) (fun K hK => ?_)
          simp only [List.getElem_toArray, List.getElem_cons_zero, List.getElem_cons_succ]
          go_simp
          go_at_call 14
          refine (hash_any _ _ (by omega)).mono ?_
          rintro e w1 ⟨rfl, rfl⟩
          have hS := hH
          refine hK.out _ _ hS (fun hH => ?_)
          clear hK K hS
          try simp (config := { failIfUnchanged := false }) only [Act.put, List.setIfInBounds_toArray, List.set_cons_zero, List.set_cons_succ, List.getElem_toArray, List.getElem_cons_zero, List.getElem_cons_succ]
          refine take_run (i := 5) (v := ?_) (by decide) (by kernel_rfl) (by kernel_rfl) (by kernel_rfl) (fun _ _ _ _ h => h) hH rfl ?_ ?_
          rotate_left
          · (intro w hSw; (try dsimp only at hSw); (try go_split_ands); simp only [List.getElem_toArray, List.getElem_cons_zero, List.getElem_cons_succ]; go_simp; try with_reducible rfl)
          simp (config := { failIfUnchanged := false }) only [Act.put, List.setIfInBounds_toArray, List.set_cons_zero, List.set_cons_succ, List.getElem_toArray, List.getElem_cons_zero, List.getElem_cons_succ]
          refine take_run (i := 10) (v := ?_) (by decide) (by kernel_rfl) (by kernel_rfl) (by kernel_rfl) (fun _ _ _ _ h => h) hH rfl ?_ ?_
          rotate_left
          · (intro w hSw; (try dsimp only at hSw); (try go_split_ands); simp only [List.getElem_toArray, List.getElem_cons_zero, List.getElem_cons_succ]; go_simp; try with_reducible rfl)
          simp (config := { failIfUnchanged := false }) only [Act.put, List.setIfInBounds_toArray, List.set_cons_zero, List.set_cons_succ, List.getElem_toArray, List.getElem_cons_zero, List.getElem_cons_succ]
          refine take_run (i := 11) (v := ?_) (by decide) (by kernel_rfl) (by kernel_rfl) (by kernel_rfl) (fun _ _ _ _ h => h) hH rfl ?_ ?_
          rotate_left
          · (intro w hSw; (try dsimp only at hSw); (try go_split_ands); simp only [List.getElem_toArray, List.getElem_cons_zero, List.getElem_cons_succ]; go_simp; try with_reducible rfl)
          simp (config := { failIfUnchanged := false }) only [Act.put, List.setIfInBounds_toArray, List.set_cons_zero, List.set_cons_succ, List.getElem_toArray, List.getElem_cons_zero, List.getElem_cons_succ]
          refine take_run (i := 12) (v := ?_) (by decide) (by kernel_rfl) (by kernel_rfl) (by kernel_rfl) (fun _ _ _ _ h => h) hH rfl ?_ ?_
          rotate_left
          · (intro w hSw; (try dsimp only at hSw); (try go_split_ands); simp only [List.getElem_toArray, List.getElem_cons_zero, List.getElem_cons_succ]; go_simp; try with_reducible rfl)
          simp (config := { failIfUnchanged := false }) only [Act.put, List.setIfInBounds_toArray, List.set_cons_zero, List.set_cons_succ, List.getElem_toArray, List.getElem_cons_zero, List.getElem_cons_succ]
          refine take_run (i := 13) (v := ?_) (by decide) (by kernel_rfl) (by kernel_rfl) (by kernel_rfl) (fun _ _ _ _ h => h) hH rfl ?_ ?_
          rotate_left
          · (intro w hSw; (try dsimp only at hSw); (try go_split_ands); simp only [List.getElem_toArray, List.getElem_cons_zero, List.getElem_cons_succ]; go_simp; try with_reducible rfl)
          simp (config := { failIfUnchanged := false }) only [Act.put, List.setIfInBounds_toArray, List.set_cons_zero, List.set_cons_succ, List.getElem_toArray, List.getElem_cons_zero, List.getElem_cons_succ]
          refine take_run (i := 15) (v := ?_) (by decide) (by kernel_rfl) (by kernel_rfl) (by kernel_rfl) (fun _ _ _ _ h => h) hH rfl ?_ ?_
          rotate_left
          · (intro w hSw; (try dsimp only at hSw); (try go_split_ands); simp only [List.getElem_toArray, List.getElem_cons_zero, List.getElem_cons_succ]; go_simp; try with_reducible rfl)
          simp (config := { failIfUnchanged := false }) only [Act.put, List.setIfInBounds_toArray, List.set_cons_zero, List.set_cons_succ, List.getElem_toArray, List.getElem_cons_zero, List.getElem_cons_succ]
          refine take_run (i := 18) (v := ?_) (by decide) (by kernel_rfl) (by kernel_rfl) (by kernel_rfl) (fun _ _ _ _ h => h) hH rfl ?_ ?_
          rotate_left
          · (intro w hSw; (try dsimp only at hSw); (try go_split_ands); simp only [List.getElem_toArray, List.getElem_cons_zero, List.getElem_cons_succ]; go_simp; try with_reducible rfl)
          simp (config := { failIfUnchanged := false }) only [Act.put, List.setIfInBounds_toArray, List.set_cons_zero, List.set_cons_succ, List.getElem_toArray, List.getElem_cons_zero, List.getElem_cons_succ]
          refine take_run (i := 19) (v := ?_) (by decide) (by kernel_rfl) (by kernel_rfl) (by kernel_rfl) (fun _ _ _ _ h => h) hH rfl ?_ ?_
          rotate_left
          · (intro w hSw; (try dsimp only at hSw); (try go_split_ands); simp only [List.getElem_toArray, List.getElem_cons_zero, List.getElem_cons_succ]; go_simp; try with_reducible rfl)
          simp (config := { failIfUnchanged := false }) only [Act.put, List.setIfInBounds_toArray, List.set_cons_zero, List.set_cons_succ, List.getElem_toArray, List.getElem_cons_zero, List.getElem_cons_succ]
          refine take_run (i := 20) (v := ?_) (by decide) (by kernel_rfl) (by kernel_rfl) (by kernel_rfl) (fun _ _ _ _ h => h) hH rfl ?_ ?_
          rotate_left
          · (intro w hSw; (try dsimp only at hSw); (try go_split_ands); simp only [List.getElem_toArray, List.getElem_cons_zero, List.getElem_cons_succ]; go_simp; try with_reducible rfl)
          simp (config := { failIfUnchanged := false }) only [Act.put, List.setIfInBounds_toArray, List.set_cons_zero, List.set_cons_succ, List.getElem_toArray, List.getElem_cons_zero, List.getElem_cons_succ]
          refine take_run (i := 21) (v := ?_) (by decide) (by kernel_rfl) (by kernel_rfl) (by kernel_rfl) (fun _ _ _ _ h => h) hH rfl ?_ ?_
          rotate_left
          · (intro w hSw; (try dsimp only at hSw); (try go_split_ands); simp only [List.getElem_toArray, List.getElem_cons_zero, List.getElem_cons_succ]; go_simp; try with_reducible rfl)
          simp (config := { failIfUnchanged := false }) only [Act.put, List.setIfInBounds_toArray, List.set_cons_zero, List.set_cons_succ, List.getElem_toArray, List.getElem_cons_zero, List.getElem_cons_succ]
          refine take_call (i := 14) (by decide) (by kernel_rfl) (fun K hK => ?_)
          simp only [List.getElem_toArray, List.getElem_cons_zero, List.getElem_cons_succ]
          go_simp
          go_at_call 11
          refine (crc_any _ _ (by omega) HT2.out).mono ?_
          rintro e w1 ⟨rfl, rfl⟩
          have hS := hH
          refine hK.out _ _ hS (fun hH => ?_)
          clear hK K hS
          try simp (config := { failIfUnchanged := false }) only [Act.put, List.setIfInBounds_toArray, List.set_cons_zero, List.set_cons_succ, List.getElem_toArray, List.getElem_cons_zero, List.getElem_cons_succ]
          refine take_call (i := 16) (by decide) (by kernel_rfl) (fun K hK => ?_)
          simp only [List.getElem_toArray, List.getElem_cons_zero, List.getElem_cons_succ]
          go_simp
          go_at_call 11
          refine (crc_any _ _ (by omega) HT2.out).mono ?_
          rintro e w1 ⟨rfl, rfl⟩
          have hS := hH
          refine hK.out _ _ hS (fun hH => ?_)
          clear hK K hS
          try simp (config := { failIfUnchanged := false }) only [Act.put, List.setIfInBounds_toArray, List.set_cons_zero, List.set_cons_succ, List.getElem_toArray, List.getElem_cons_zero, List.getElem_cons_succ]
          refine take_run (i := 17) (v := ?_) (by decide) (by kernel_rfl) (by kernel_rfl) (by kernel_rfl) (fun _ _ _ _ h => h) hH rfl ?_ ?_
          rotate_left
          · (intro w hSw; (try dsimp only at hSw); (try go_split_ands); simp only [List.getElem_toArray, List.getElem_cons_zero, List.getElem_cons_succ]; go_simp; try with_reducible rfl)
          simp (config := { failIfUnchanged := false }) only [Act.put, List.setIfInBounds_toArray, List.set_cons_zero, List.set_cons_succ, List.getElem_toArray, List.getElem_cons_zero, List.getElem_cons_succ]
          refine take_run (i := 22) (v := ?_) (by decide) (by kernel_rfl) (by kernel_rfl) (by kernel_rfl) (fun _ _ _ _ h => h) hH rfl ?_ ?_
          rotate_left
          · (intro w hSw; (try dsimp only at hSw); (try go_split_ands); simp only [List.getElem_toArray, List.getElem_cons_zero, List.getElem_cons_succ]; go_simp; try with_reducible rfl)
          simp (config := { failIfUnchanged := false }) only [Act.put, List.setIfInBounds_toArray, List.set_cons_zero, List.set_cons_succ, List.getElem_toArray, List.getElem_cons_zero, List.getElem_cons_succ]
          refine take_run (i := 23) (v := ?_) (by decide) (by kernel_rfl) (by kernel_rfl) (by kernel_rfl) (fun _ _ _ _ h => h) hH rfl ?_ ?_
          rotate_left
          · (intro w hSw; (try dsimp only at hSw); (try go_split_ands); simp only [List.getElem_toArray, List.getElem_cons_zero, List.getElem_cons_succ]; go_simp; try with_reducible rfl)
          simp (config := { failIfUnchanged := false }) only [Act.put, List.setIfInBounds_toArray, List.set_cons_zero, List.set_cons_succ, List.getElem_toArray, List.getElem_cons_zero, List.getElem_cons_succ]
          refine take_run (i := 24) (v := ?_) (by decide) (by kernel_rfl) (by kernel_rfl) (by kernel_rfl) (fun _ _ _ _ h => h) hH rfl ?_ ?_
          rotate_left
          · (intro w hSw; (try dsimp only at hSw); (try go_split_ands); simp only [List.getElem_toArray, List.getElem_cons_zero, List.getElem_cons_succ]; go_simp; try with_reducible rfl)
          simp (config := { failIfUnchanged := false }) only [Act.put, List.setIfInBounds_toArray, List.set_cons_zero, List.set_cons_succ, List.getElem_toArray, List.getElem_cons_zero, List.getElem_cons_succ]
          refine take_call (i := 25) (by decide) (by kernel_rfl) (fun K hK => ?_)
          simp only [List.getElem_toArray, List.getElem_cons_zero, List.getElem_cons_succ]
          go_simp
          go_at_call 13
          refine (awake_any _ HT2.out).mono ?_
          rintro e w1 ⟨rfl, hb⟩
          have hS : Below wr.heap.size wr w1 ∧ _ ∧ _ := ⟨bstep (Below.refl _ _).drew (Nat.le_refl _) hb, ((hO.drew.below hb hO.lt).conv a.size c1 HON.out.symm), ((hF.drew.below hb hF.lt).conv a.size c2 HFO.out.symm)⟩
          refine hK.out _ _ hS (fun hH => ?_)
          clear hK K hS
          try simp (config := { failIfUnchanged := false }) only [Act.put, List.setIfInBounds_toArray, List.set_cons_zero, List.set_cons_succ, List.getElem_toArray, List.getElem_cons_zero, List.getElem_cons_succ]
          refine take_run (i := 26) (v := ?_) (by decide) (by kernel_rfl) (by kernel_rfl) (by kernel_rfl) (fun _ _ _ _ h => h) hH rfl ?_ ?_
          rotate_left
          · (intro w hSw; (try dsimp only at hSw); (try go_split_ands); simp only [List.getElem_toArray, List.getElem_cons_zero, List.getElem_cons_succ]; go_simp; try with_reducible rfl)
          simp (config := { failIfUnchanged := false }) only [Act.put, List.setIfInBounds_toArray, List.set_cons_zero, List.set_cons_succ, List.getElem_toArray, List.getElem_cons_zero, List.getElem_cons_succ]
          refine take_run (i := 27) (v := ?_) (by decide) (by kernel_rfl) (by kernel_rfl) (by kernel_rfl) (fun _ _ _ _ h => h) hH rfl ?_ ?_
          rotate_left
          · (intro w hSw; (try dsimp only at hSw); (try go_split_ands); simp only [List.getElem_toArray, List.getElem_cons_zero, List.getElem_cons_succ]; go_simp; try with_reducible rfl)
          simp (config := { failIfUnchanged := false }) only [Act.put, List.setIfInBounds_toArray, List.set_cons_zero, List.set_cons_succ, List.getElem_toArray, List.getElem_cons_zero, List.getElem_cons_succ]
          refine wpAnyH_done (by kernel_rfl) ?_ _
          go_wp2
          go_ret
          exact ⟨rfl, bstep hw hw.size hH.1⟩
end Go.Proofs.YtejlmdkbcjkkhaaDoor

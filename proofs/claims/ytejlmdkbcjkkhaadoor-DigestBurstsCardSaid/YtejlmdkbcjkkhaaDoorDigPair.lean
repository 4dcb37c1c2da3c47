/- Chapter 06: Pair, of the program and of the reference, by walking their text. -/
import Derived.Test.YtejlmdkbcjkkhaaDoorDigSplit
import Derived.Laws.IdiomStrings
import Derived.ShutString
namespace Go.Proofs.YtejlmdkbcjkkhaaDoor
open Go Go.RowKit Go.ChangeShapes

/-- byte i of a hash, the most significant one first. -/
def byteOf (a : Int) (i : Nat) : UInt8 := UInt8.ofNat ((a / 2 ^ (56 - 8 * i)) % 256).toNat
def be8 (a : Int) : List UInt8 := (List.range 8).map (byteOf a)
def pairBs (a b : Int) : List UInt8 := be8 a ++ be8 b
def pairL (a b : Int) : Int := hashL (1 :: pairBs a b)
def u8s (l : List UInt8) : List Value := l.map fun b => .int .u8 (b.toNat : Int)

theorem byteOf_toNat {a : Int} (i : Nat) : ((byteOf a i).toNat : Int) = a / 2 ^ (56 - 8 * i) % 256 := by
  unfold byteOf
  have h1 : 0 ≤ a / 2 ^ (56 - 8 * i) % 256 := by omega
  have h2 : a / 2 ^ (56 - 8 * i) % 256 < 256 := by omega
  generalize a / 2 ^ (56 - 8 * i) % 256 = c at *
  rw [UInt8.toNat_ofNat_of_lt' (by show c.toNat < 256; omega)]
  omega
theorem be8_get (a : Int) (m : Nat) (h : m < 8) : (be8 a)[m]? = some (byteOf a m) := by
  simp [be8, h]
theorem be8_len (a : Int) : (be8 a).length = 8 := by simp [be8]
theorem pairBs_len (a b : Int) : (pairBs a b).length = 16 := by simp [pairBs, be8_len]
theorem u8s_snoc (l : List UInt8) (b : UInt8) : u8s (l ++ [b]) = u8s l ++ [.int .u8 (b.toNat : Int)] := by simp [u8s]
theorem own_step {w : World} {base n : Nat} {v : Value} {X : List UInt8} {j : Nat} {b : UInt8} {z : Int} (hX : X[j]? = some b) (hz : (b.toNat : Int) = z)
    (h : w.ownsRow base 5 1 v (n + 1) (u8s (1 :: X.take j) ++ [.int .u8 z])) : w.ownsRow base 5 1 v (n + 1) (u8s (1 :: X.take (j + 1))) := by
  rw [take_one hX, ← List.cons_append, u8s_snoc, hz]; exact h
theorem pair_ix (a b : Int) (k : Nat) (hk : k < 2) (ha0 : 0 ≤ a) (ha1 : a ≤ 18446744073709551615) (hb0 : 0 ≤ b) (hb1 : b ≤ 18446744073709551615) :
    ∃ x : Int, 0 ≤ x ∧ x ≤ 18446744073709551615 ∧ (∀ m, m < 8 → (pairBs a b)[8 * k + m]? = some (byteOf x m)) ∧ ∀ W : World, (Instr.index 52 (.agg #[.int .u64 a, .int .u64 b]) (.int .i64 k)).run Tryd.prog W = .ok (.int .u64 x) W := by
  have : k = 0 ∨ k = 1 := by omega
  rcases this with rfl | rfl
  · exact ⟨a, ha0, ha1, fun m hm => by unfold pairBs; rw [List.getElem?_append_left (by rw [be8_len]; omega), Nat.mul_zero, Nat.zero_add, be8_get _ _ hm], fun _ => by kernel_rfl⟩
  · exact ⟨b, hb0, hb1, fun m hm => by unfold pairBs; rw [List.getElem?_append_right (by rw [be8_len]; omega), be8_len, show 8 * 1 + m - 8 = m from by omega, be8_get _ _ hm], fun _ => by kernel_rfl⟩
theorem own_bytes {w : World} {base n m : Nat} {v : Value} {l : List UInt8} (hl : l.length = m) (hm : 0 < m) (hn : n = m) (h : w.ownsRow base 5 1 v n (u8s l)) :
    ∃ g cap, v = .slice (some ⟨g, 0, none⟩) m cap ∧ (convert 49 9 (.slice (some ⟨g, 0, none⟩) m cap)).run Tryd.prog w = .ok (.string ⟨l.toArray⟩) w := by
  subst hn
  have hc := fun g hg => World.ownsRow.cells h (g := g) hg
  rcases h.2 with ⟨rfl, h0⟩ | ⟨g, cap, cur, rfl, -⟩
  · omega
  · subst hl
    exact ⟨g, cap, rfl, run_convert_bytes_back w _ _ _ _ cap l Tryd.underlying49 Tryd.underlying5 Tryd.underlying9 (fun j hj => hc g rfl j _ (by simp [u8s, hj]))⟩
theorem ret_u64 {a b : Int} (h : a = b) : Ending.returned (.int .u64 a) = .returned (.int .u64 b) := by rw [h]

set_option maxHeartbeats 400000 in
theorem pair_any (a b : Int) (w : World) (ha0 : 0 ≤ a) (ha1 : a ≤ 18446744073709551615) (hb0 : 0 ≤ b) (hb1 : b ≤ 18446744073709551615) :
    Calls Tryd.prog 16 #[.int .u64 a, .int .u64 b] w (Ret (.int .u64 (pairL a b)) w) := by
  go_enter Tryd.func16, Tryd.ntmps16
  go_wp2
  obtain ⟨i0, hi, hz0, hz1, hz2⟩ := info_parts (show (Tryd.prog.info? 5).map (fun i => (i.zero, i.size, i.bytes)) = some (some (.int .u8 0), 1, 1) by kernel_rfl)
  go_loopw [5, 13] (fun v i W => ∃ k : Nat, k ≤ 2 ∧ i = .int .i64 k ∧ Below w.heap.size w W ∧ W.ownsRow w.heap.size 5 1 v (1 + 8 * k) (u8s (1 :: (pairBs a b).take (8 * k)))) (fun _ i _ => 2 - (intOf i).toNat)
  case atStart => exact ⟨0, by omega, rfl, (Below.refl _ _).alloc (Nat.le_refl _) _, by rw [Nat.mul_zero, List.take_zero]; exact ⟨rfl, .inr ⟨w.heap.size, 1, _, rfl, Nat.le_refl _, heap_alloc_new _ _, Nat.le_refl _, by unfold maxLen; omega, rfl, rfl⟩⟩⟩
  case round =>
    obtain ⟨k, hk, rfl, hbel, hown⟩ := hrel
    by_cases hlt : k < 2
    · obtain ⟨x, hx0, hx1, hxb, ix⟩ := pair_ix a b k hlt ha0 ha1 hb0 hb1
      have HXB := Lib.hid hxb
      have hd : decide ((k : Int) < 2) = true := by simp; omega
      clear hxb
      go_wp2
      obtain ⟨wo, rfl⟩ : ∃ wo : World, wo = wr := ⟨_, rfl⟩
      go_loopw [5, 8] (fun v i W => ∃ m : Nat, m ≤ 8 ∧ i = .int .i64 (56 - 8 * (m : Int)) ∧ Below w.heap.size w W ∧ W.ownsRow w.heap.size 5 1 v (1 + 8 * k + m) (u8s (1 :: (pairBs a b).take (8 * k + m)))) (fun _ i _ => (intOf i + 8).toNat)
      case atStart => exact ⟨0, by omega, rfl, hbel, hown⟩
      case round =>
        obtain ⟨m, hm, rfl, hbel2, hown2⟩ := hrel
        by_cases hlm : m < 8
        · have h1 : 0 ≤ 56 - 8 * (m : Int) := by omega
          have hz := hbel2.size
          have hd2 : decide (8 * (m : Int) ≤ 56) = true := by simp; omega
          go_wp2_with (at_builtin; refine wpList_append_own _ rfl _ _ 49 rfl w.heap.size 5 i0 (.int .u8 0) 1 1 Tryd.underlying49 hi hz0 hz1 hz2 rfl (by decide) _ _ _ rfl (World.ownsRow.alloc hown2 _) ⟨wr.heap.size, 0, none⟩ 1 1 [_] rfl rfl (new1_cells _ _ _) (one_oneCell rfl) (by unfold maxLen; omega) (by omega) (by simp; omega) ?_; intro v1 w1 hown1 hg1 _; have hb1 := below_own hbel2 hz hown2 hg1)
          go_roundw
          case rel => exact ⟨m + 1, by omega, by go_num, hb1, own_step (HXB.out m hlm) (byteOf_toNat m) hown1⟩
          case measure => simp [intOf]; omega
        · have h1 : ¬ (0 ≤ 56 - 8 * (m : Int)) := by omega
          obtain rfl : m = 8 := by omega
          go_wp2
          go_roundw
          case rel => exact ⟨k + 1, by omega, by go_num, hbel2, hown2⟩
          case measure => simp [intOf]; omega
    · obtain rfl : k = 2 := by omega
      have e1 : (pairBs a b).take 16 = pairBs a b := List.take_of_length_le (by rw [pairBs_len]; omega)
      rw [e1] at hown
      clear e1
      have hl : (1 :: pairBs a b).length = 17 := by rw [List.length_cons, pairBs_len]
      obtain ⟨g, cap, rfl, hcv⟩ := own_bytes hl (by omega) rfl hown
      have HP : Hid (pairL a b = hashL (1 :: pairBs a b)) := rfl
      generalize hX : (1 :: pairBs a b : List UInt8) = X at *
      have HX := Lib.hid hX
      clear hX hown
      go_wp2_with (go_at_call 14; refine (hash_any _ _ (by rw [size_of_list, hl]; omega)).mono ?_; rintro e w1 ⟨rfl, rfl⟩)
      go_ret
      exact ⟨ret_u64 (by rw [HP.out]), hbel⟩
end Go.Proofs.YtejlmdkbcjkkhaaDoor

/- Chapter 06: plain laws: a step of FNV-1a is one-to-one in the state and in the byte; CRC-32C is one-to-one on four bytes. -/
import Derived.Test.YtejlmdkbcjkkhaaDoorDigCrc
namespace Go.Proofs.YtejlmdkbcjkkhaaDoor
open Go Go.RowKit

theorem u64_xor_nat (a b : Nat) (ha : a < 18446744073709551616) (hb : b < 18446744073709551616) : bits .xor .u64 (a : Int) (b : Int) = ((a ^^^ b : Nat) : Int) := by
  have hx : a ^^^ b < 2 ^ 64 := Nat.xor_lt_two_pow (by omega) (by omega)
  show IntKind.u64.wrap ((BitVec.ofInt 64 (a : Int) ^^^ BitVec.ofInt 64 (b : Int)).toNat : Int) = _
  rw [BitVec.toNat_xor, BitVec.ofInt_natCast, BitVec.ofInt_natCast, BitVec.toNat_ofNat, BitVec.toNat_ofNat, Nat.mod_eq_of_lt (by omega), Nat.mod_eq_of_lt (by omega), IntKind.wrap_u64]
  omega
theorem mul_odd_inj {x y : Int} (hx0 : 0 ≤ x) (hx : x < 18446744073709551616) (hy0 : 0 ≤ y) (hy : y < 18446744073709551616) (h : x * 1099511628211 % 18446744073709551616 = y * 1099511628211 % 18446744073709551616) : x = y := by
  have hi : ∀ z : Int, (z * 1099511628211 % 18446744073709551616) * 14886173955864302971 % 18446744073709551616 = z % 18446744073709551616 := by
    intro z
    rw [Int.mul_emod, Int.emod_emod_of_dvd _ (Int.dvd_refl _), ← Int.mul_emod, Int.mul_assoc]
    rw [show (1099511628211 * 14886173955864302971 : Int) = 1 + 18446744073709551616 * (1099511628211 * 14886173955864302971 / 18446744073709551616) by decide]
    rw [Int.mul_add, Int.mul_one, Int.mul_left_comm, Int.add_mul_emod_self_left]
  have h1 := hi x
  rw [h, hi y, Int.emod_eq_of_lt hx0 hx, Int.emod_eq_of_lt hy0 hy] at h1
  exact h1.symm
theorem xor_cancel {a b c : Nat} (h : a ^^^ c = b ^^^ c) : a = b := by
  have := congrArg (· ^^^ c) h
  simpa [Nat.xor_assoc] using this
theorem hstep_nat (h : Nat) (b : UInt8) (hh : h < 18446744073709551616) : hstep (h : Int) b = ((h ^^^ b.toNat : Nat) : Int) * 1099511628211 % 18446744073709551616 := by
  unfold hstep
  rw [u64_xor_nat h b.toNat hh (by have := UInt8.toNat_lt b; omega), IntKind.wrap_u64]
theorem hstep_inj {h h' : Int} {b b' : UInt8} (h0 : 0 ≤ h) (h1 : h ≤ 18446744073709551615) (h0' : 0 ≤ h') (h1' : h' ≤ 18446744073709551615) (e : hstep h b = hstep h' b') : h.toNat ^^^ b.toNat = h'.toNat ^^^ b'.toNat := by
  obtain ⟨n, rfl⟩ := Int.eq_ofNat_of_zero_le h0
  obtain ⟨n', rfl⟩ := Int.eq_ofNat_of_zero_le h0'
  rw [hstep_nat n b (by omega), hstep_nat n' b' (by omega)] at e
  have hx : n ^^^ b.toNat < 18446744073709551616 := Nat.xor_lt_two_pow (n := 64) (by omega) (by have := UInt8.toNat_lt b; omega)
  have hx' : n' ^^^ b'.toNat < 18446744073709551616 := Nat.xor_lt_two_pow (n := 64) (by omega) (by have := UInt8.toNat_lt b'; omega)
  rw [Int.toNat_natCast, Int.toNat_natCast]
  clear h0 h1 h0' h1'
  generalize n ^^^ b.toNat = p at *
  generalize n' ^^^ b'.toNat = q at *
  have e1 := mul_odd_inj (x := (p : Int)) (y := (q : Int)) (Int.natCast_nonneg _) (Int.ofNat_lt.2 hx) (Int.natCast_nonneg _) (Int.ofNat_lt.2 hx') e
  exact Int.ofNat_inj.1 e1
theorem hstep_bd (h : Int) (b : UInt8) : 0 ≤ hstep h b ∧ hstep h b ≤ 18446744073709551615 := by
  unfold hstep; rw [IntKind.wrap_u64]; omega
theorem hfold_inj : ∀ (l : List UInt8) (h h' : Int), 0 ≤ h → h ≤ 18446744073709551615 → 0 ≤ h' → h' ≤ 18446744073709551615 → l.foldl hstep h = l.foldl hstep h' → h = h'
  | [], _, _, _, _, _, _, e => e
  | b :: l, h, h', h0, h1, h0', h1', e => by
    have ih := hfold_inj l (hstep h b) (hstep h' b) (hstep_bd _ _).1 (hstep_bd _ _).2 (hstep_bd _ _).1 (hstep_bd _ _).2 e
    have := xor_cancel (hstep_inj h0 h1 h0' h1' ih)
    omega
theorem hfold_bd : ∀ (l : List UInt8) (h : Int), 0 ≤ h → h ≤ 18446744073709551615 → 0 ≤ l.foldl hstep h ∧ l.foldl hstep h ≤ 18446744073709551615
  | [], _, h0, h1 => ⟨h0, h1⟩
  | b :: l, h, _, _ => hfold_bd l _ (hstep_bd h b).1 (hstep_bd h b).2
theorem set_split {α : Type} {l : List α} {k : Nat} {y : α} (hy : l[k]? = some y) (z : α) : l.set k z = l.take k ++ z :: l.drop (k + 1) := by
  rw [List.set_eq_take_append_cons_drop, if_pos (lt_of_get hy)]
theorem self_split {α : Type} {l : List α} {k : Nat} {y : α} (hy : l[k]? = some y) : l = l.take k ++ y :: l.drop (k + 1) := by
  have hk := lt_of_get hy
  have h1 := List.drop_eq_getElem_cons hk
  rw [List.getElem?_eq_getElem hk] at hy
  injection hy with hy
  rw [hy] at h1
  rw [← h1, List.take_append_drop]
theorem hash_set {l : List UInt8} {k : Nat} {y : UInt8} (hy : l[k]? = some y) (z : UInt8) : hashL (l.set k z) = hashL l ↔ l.set k z = l := by
  refine ⟨fun h => ?_, fun h => by rw [h]⟩
  rw [set_split hy z] at h ⊢
  have e := self_split hy
  rw [e] at h
  rw [← e] at h
  have h2 : hashL (l.take k ++ z :: l.drop (k + 1)) = hashL (l.take k ++ y :: l.drop (k + 1)) := by rw [← e]; exact h
  unfold hashL at h2
  rw [List.foldl_append, List.foldl_append, List.foldl_cons, List.foldl_cons] at h2
  have hb := hfold_bd (l.take k) 14695981039346656037 (by decide) (by decide)
  have h3 := hfold_inj _ _ _ (hstep_bd _ _).1 (hstep_bd _ _).2 (hstep_bd _ _).1 (hstep_bd _ _).2 h2
  have h4 := hstep_inj hb.1 hb.2 hb.1 hb.2 h3
  have h5 : z.toNat = y.toNat := by
    rw [Nat.xor_comm, Nat.xor_comm _ y.toNat] at h4
    exact xor_cancel h4
  have h6 : z = y := UInt8.toNat_inj.1 h5
  rw [h6, ← e]
/-! the checksum -/
theorem crc1_inj {a b : Nat} (ha : a < 2 ^ 32) (hb : b < 2 ^ 32) (h : crc1 a = crc1 b) : a = b := by
  unfold crc1 at h
  have t31 : ∀ x : Nat, x < 2 ^ 32 → (x / 2).testBit 31 = false := fun x hx => Nat.testBit_lt_two_pow (by omega)
  have tP : (2197175160 : Nat).testBit 31 = true := by decide
  split at h <;> split at h
  · have := xor_cancel h; omega
  · have := congrArg (·.testBit 31) h
    simp only [Nat.testBit_xor, t31 a ha, t31 b hb, tP] at this
    cases this
  · have := congrArg (·.testBit 31) h
    simp only [Nat.testBit_xor, t31 a ha, t31 b hb, tP] at this
    cases this
  · omega
theorem crcs_inj : ∀ (n a b : Nat), a < 2 ^ 32 → b < 2 ^ 32 → crcs n a = crcs n b → a = b
  | 0, _, _, _, _, h => h
  | n + 1, a, b, ha, hb, h => crc1_inj ha hb (crcs_inj n _ _ (crc1_lt ha) (crc1_lt hb) h)
def cfold (r : Nat) (l : List UInt8) : Nat := l.foldl (fun r b => crcs 8 (r ^^^ b.toNat)) r
theorem xor_lt32 {r : Nat} (b : UInt8) (h : r < 2 ^ 32) : r ^^^ b.toNat < 2 ^ 32 := Nat.xor_lt_two_pow h (by have := UInt8.toNat_lt b; omega)
theorem cfold_lt : ∀ (l : List UInt8) (r : Nat), r < 2 ^ 32 → cfold r l < 2 ^ 32
  | [], _, h => h
  | b :: l, r, h => cfold_lt l _ (crcs_lt 8 (xor_lt32 b h))
theorem cfold_inj : ∀ (l : List UInt8) (r s : Nat), r < 2 ^ 32 → s < 2 ^ 32 → cfold r l = cfold s l → r = s
  | [], _, _, _, _, h => h
  | b :: l, r, s, hr, hs, h => by
    have := cfold_inj l (crcs 8 (r ^^^ b.toNat)) (crcs 8 (s ^^^ b.toNat)) (crcs_lt 8 (xor_lt32 b hr)) (crcs_lt 8 (xor_lt32 b hs)) h
    exact xor_cancel (crcs_inj 8 _ _ (xor_lt32 b hr) (xor_lt32 b hs) this)
def word : List UInt8 → Nat
  | [] => 0
  | b :: l => b.toNat ^^^ word l * 256
theorem crcs8_shift (n : Nat) : crcs 8 (n * 256) = n := by
  have e : n * 256 = 2 * (2 * (2 * (2 * (2 * (2 * (2 * (2 * n))))))) := by omega
  rw [e]
  simp only [crcs, crc1_even]
theorem cfold_word : ∀ (l : List UInt8) (r : Nat), cfold r l = crcs (8 * l.length) (r ^^^ word l)
  | [], r => by simp [cfold, word, crcs]
  | b :: l, r => by
    show cfold (crcs 8 (r ^^^ b.toNat)) l = _
    rw [cfold_word l, List.length_cons, show 8 * (l.length + 1) = 8 + 8 * l.length from by omega, crcs_add, word]
    congr 1
    rw [← Nat.xor_assoc, crcs_xor 8 (r ^^^ b.toNat), crcs8_shift]
theorem word_lt : ∀ (l : List UInt8), word l < 2 ^ (8 * l.length)
  | [] => by simp [word]
  | b :: l => by
    have h := word_lt l
    have hb := UInt8.toNat_lt b
    rw [word, List.length_cons, show 8 * (l.length + 1) = 8 * l.length + 8 from by omega]
    refine Nat.xor_lt_two_pow (Nat.lt_of_lt_of_le hb (Nat.pow_le_pow_right (by omega) (by omega))) ?_
    rw [Nat.pow_add]
    exact Nat.mul_lt_mul_of_pos_right h (by decide)
theorem byte_mod (a b n m : Nat) (ha : a < 256) (hb : b < 256) (h : a ^^^ n * 256 = b ^^^ m * 256) : a = b ∧ n = m := by
  have hm : ∀ x y : Nat, x < 256 → (x ^^^ y * 256) % 2 ^ 8 = x := fun x y hx => by
    rw [Nat.xor_mod_two_pow, Nat.mod_eq_of_lt hx, show y * 256 % 2 ^ 8 = 0 from Nat.mul_mod_left y 256, Nat.xor_zero]
  have e : a = b := by rw [← hm a n ha, ← hm b m hb, h]
  subst e
  rw [Nat.xor_comm, Nat.xor_comm a] at h
  have := xor_cancel h
  omega
theorem word_inj : ∀ (l m : List UInt8), l.length = m.length → word l = word m → l = m
  | [], [], _, _ => rfl
  | b :: l, c :: m, hl, h => by
    obtain ⟨h1, h2⟩ := byte_mod _ _ _ _ (UInt8.toNat_lt b) (UInt8.toNat_lt c) h
    rw [UInt8.toNat_inj.1 h1, word_inj l m (by simpa using hl) h2]
  | [], _ :: _, h, _ => by simp at h
  | _ :: _, [], h, _ => by simp at h
theorem window_split {α : Type} (l : List α) (k j : Nat) : l = l.take k ++ ((l.drop k).take j ++ l.drop (k + j)) := by
  rw [← List.drop_drop, List.take_append_drop, List.take_append_drop]
theorem crc_window {X l : List UInt8} {k j : Nat} (hlen : X.length = l.length) (h1 : X.take k = l.take k) (h2 : X.drop (k + j) = l.drop (k + j)) (hj : j ≤ 4) : crcL X = crcL l ↔ X = l := by
  refine ⟨fun h => ?_, fun h => by rw [h]⟩
  have h := xor_cancel h
  have hX : crcReg X = cfold (cfold (cfold 4294967295 (l.take k)) ((X.drop k).take j)) (l.drop (k + j)) := by
    conv => lhs; rw [window_split X k j, h1, h2]
    unfold crcReg cfold
    rw [List.foldl_append, List.foldl_append]
  have hL : crcReg l = cfold (cfold (cfold 4294967295 (l.take k)) ((l.drop k).take j)) (l.drop (k + j)) := by
    conv => lhs; rw [window_split l k j]
    unfold crcReg cfold
    rw [List.foldl_append, List.foldl_append]
  rw [hX, hL] at h
  have hr := cfold_lt (l.take k) 4294967295 (by decide)
  have h3 := cfold_inj _ _ _ (cfold_lt _ _ hr) (cfold_lt _ _ hr) h
  rw [cfold_word ((X.drop k).take j), cfold_word ((l.drop k).take j)] at h3
  have hwl : ((X.drop k).take j).length = ((l.drop k).take j).length := by simp [hlen]
  rw [hwl] at h3
  have hw1 := word_lt ((X.drop k).take j)
  have hw2 := word_lt ((l.drop k).take j)
  have hle : 8 * ((l.drop k).take j).length ≤ 32 := by rw [List.length_take]; omega
  rw [hwl] at hw1
  have hp := Nat.pow_le_pow_right (n := 2) (by omega) hle
  have h4 := crcs_inj _ _ _ (Nat.xor_lt_two_pow hr (Nat.lt_of_lt_of_le hw1 hp)) (Nat.xor_lt_two_pow hr (Nat.lt_of_lt_of_le hw2 hp)) h3
  rw [Nat.xor_comm, Nat.xor_comm _ (word ((l.drop k).take j))] at h4
  have h5 := word_inj _ _ hwl (xor_cancel h4)
  rw [window_split X k j, h1, h2, h5, ← window_split l k j]
end Go.Proofs.YtejlmdkbcjkkhaaDoor

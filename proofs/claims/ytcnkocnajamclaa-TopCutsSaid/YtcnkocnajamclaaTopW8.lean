/- Chapter 13: whether two contours meet, by walking the reference's text. -/
import Derived.Test.YtcnkocnajamclaaTopW6
import Derived.Test.YtcnkocnajamclaaTopW7
namespace Go.Proofs.Ytcnkocnajamclaa
open Go Go.RowKit

/-- edge i of p meets one of the first m edges of q. -/
def crossI (p q : List Pt) (i m : Nat) : Bool := (List.range m).any fun k => meetP (cn p i) (cn p (i + 1)) (cn q k) (cn q (k + 1))
def crossA (p q : List Pt) (n : Nat) : Bool := (List.range n).any fun i => crossI p q i q.length
def crossB (p q : List Pt) : Bool := crossA p q p.length
theorem range_none {f : Nat → Bool} {k : Nat} (h : (List.range k).any f = false) (hk : f k = false) : (List.range (k + 1)).any f = false := by
  rw [List.range_succ, List.any_append, h]; simp [hk]
theorem range_hit {f : Nat → Bool} {k n : Nat} (hk : f k = true) (h : k < n) : (List.range n).any f = true := by
  rw [List.any_eq_true]; exact ⟨k, List.mem_range.2 h, hk⟩
theorem eight_at {w W : World} {b b' o0 o1 o2 o3 o4 o5 o6 o7 : Nat} {v0 v1 v2 v3 v4 v5 v6 v7 : Option Value} (hb : b < w.heap.size) (hb' : b' < w.heap.size) (c0 : w.cell? ⟨b, o0, none⟩ = v0) (c1 : w.cell? ⟨b, o1, none⟩ = v1) (d0 : w.cell? ⟨b, o2, none⟩ = v2) (d1 : w.cell? ⟨b, o3, none⟩ = v3)
    (k0 : w.cell? ⟨b', o4, none⟩ = v4) (k1 : w.cell? ⟨b', o5, none⟩ = v5) (k2 : w.cell? ⟨b', o6, none⟩ = v6) (k3 : w.cell? ⟨b', o7, none⟩ = v7) (h : Below w.heap.size w W) :
    Below w.heap.size w W ∧ W.cell? ⟨b, o0, none⟩ = v0 ∧ W.cell? ⟨b, o1, none⟩ = v1 ∧ W.cell? ⟨b, o2, none⟩ = v2 ∧ W.cell? ⟨b, o3, none⟩ = v3 ∧ W.cell? ⟨b', o4, none⟩ = v4 ∧ W.cell? ⟨b', o5, none⟩ = v5 ∧ W.cell? ⟨b', o6, none⟩ = v6 ∧ W.cell? ⟨b', o7, none⟩ = v7 :=
  ⟨h, ((bcell h).1 b o0 hb).trans c0, ((bcell h).1 b o1 hb).trans c1, ((bcell h).1 b o2 hb).trans d0, ((bcell h).1 b o3 hb).trans d1, ((bcell h).1 b' o4 hb').trans k0, ((bcell h).1 b' o5 hb').trans k1, ((bcell h).1 b' o6 hb').trans k2, ((bcell h).1 b' o7 hb').trans k3⟩
set_option maxRecDepth 100000 in
set_option maxHeartbeats 4000000 in
theorem cross13_any (A : Option Addr) (n c : Nat) (B : Option Addr) (m d : Nat) (p q : List Pt) (w : World) (hp : ptsR.R w (Lt w) p [.slice A n c]) (hq : ptsR.R w (Lt w) q [.slice B m d]) (hpn : p.all nearQ = true) (hqn : q.all nearQ = true) :
    Calls Try.prog 30 #[.slice A n c, .slice B m d] w (Ret (.bool (crossB p q)) w) := by
  obtain ⟨rfl, hm⟩ := slice_len hp
  obtain ⟨rfl, hm'⟩ := slice_len hq
  have HNP : Hid (0 < p.length → ∀ i, NearP (cn p i)) := fun h => near_cn hpn h
  have HNQ : Hid (0 < q.length → ∀ i, NearP (cn q i)) := fun h => near_cn hqn h
  clear hpn hqn
  go_enter Try.func30, Try.ntmps30
  go_wp2
  go_loopw [5] (fun iv wr => ∃ i : Nat, i ≤ p.length ∧ iv = .int .i64 i ∧ Hid (crossA p q i = false) ∧ Below w.heap.size w wr) (fun iv _ => p.length - (intOf iv).toNat)
  case atStart => exact ⟨0, Nat.zero_le _, rfl, rfl, Below.refl _ _⟩
  case round =>
    obtain ⟨i, hi, rfl, hA, hb⟩ := hrel
    by_cases hlt : i < p.length
    · have hli : (i : Int) < (p.length : Int) := by omega
      have hne1 : ¬ p.length = 0 := by omega
      have hne0 : ¬ (p.length : Int) = 0 := by omega
      have hne2 : ¬ p = [] := fun e => by rw [e] at hlt; simp at hlt
      obtain ⟨j, hj⟩ : ∃ r, (i + 1) % p.length = r := ⟨_, rfl⟩
      have hjl : j < p.length := by rw [← hj]; exact Nat.mod_lt _ (by omega)
      have hrem : ((i : Int) + 1) % (p.length : Int) = (j : Int) := by rw [← hj]; push_cast; rfl
      have htm : ((i : Int) + 1).tmod (p.length : Int) = (j : Int) := by rw [Int.tmod_eq_emod_of_nonneg (by omega)]; exact hrem
      have hwi : IntKind.i64.wrap ((i : Int) + 1) = (i : Int) + 1 := IntWalk.i64_in _ (by omega)
      have hji : (j : Int) < (p.length : Int) := by omega
      have HJ := Lib.hid hj
      have HLT := Lib.hid hlt
      have H3 := Lib.hid (And.intro hrem (And.intro htm hwi))
      clear hj hrem htm hwi
      go_wp2
      go_loopw [6] (fun kv wr => ∃ k : Nat, k ≤ q.length ∧ kv = .int .i64 k ∧ Hid (crossI p q i k = false) ∧ Below w.heap.size w wr) (fun kv _ => q.length - (intOf kv).toNat)
      case atStart => exact ⟨0, Nat.zero_le _, rfl, rfl, hb⟩
      case round =>
        clear hb
        obtain ⟨k, hk, rfl, hI, hb⟩ := hrel
        have hz := hb.size
        by_cases hkl : k < q.length
        · have hki : (k : Int) < (q.length : Int) := by omega
          have hme1 : ¬ q.length = 0 := by omega
          have hme0 : ¬ (q.length : Int) = 0 := by omega
          have hme2 : ¬ q = [] := fun e => by rw [e] at hkl; simp at hkl
          obtain ⟨l, hl⟩ : ∃ r, (k + 1) % q.length = r := ⟨_, rfl⟩
          have hll : l < q.length := by rw [← hl]; exact Nat.mod_lt _ (by omega)
          have hrem' : ((k : Int) + 1) % (q.length : Int) = (l : Int) := by rw [← hl]; push_cast; rfl
          have htm' : ((k : Int) + 1).tmod (q.length : Int) = (l : Int) := by rw [Int.tmod_eq_emod_of_nonneg (by omega)]; exact hrem'
          have hwk : IntKind.i64.wrap ((k : Int) + 1) = (k : Int) + 1 := IntWalk.i64_in _ (by omega)
          have hlI : (l : Int) < (q.length : Int) := by omega
          obtain ⟨hrem, htm, hwi⟩ := H3.out
          obtain ⟨b, off, ⟨ax, ay⟩, rfl, ha, hbD, c0, c1⟩ := pt_of (Rep.at_ hp hb) HLT.out
          obtain ⟨b', off', ⟨bx, by_⟩, e, hbb, -, d0, d1⟩ := pt_of (Rep.at_ hp hb) hjl
          injection e with e
          injection e with e5 e6 _
          subst e5 e6
          obtain ⟨b2, off2, ⟨cx, cy⟩, rfl, hc, hbD2, k0, k1⟩ := pt_of (Rep.at_ hq hb) hkl
          obtain ⟨b', off', ⟨dx, dy⟩, e, hd, -, k2, k3⟩ := pt_of (Rep.at_ hq hb) hll
          injection e with e
          injection e with e5 e6 _
          subst e5 e6
          have hbw : b < w.heap.size := hbD
          have hbl : b < wr.heap.size := by omega
          have hbw2 : b2 < w.heap.size := hbD2
          have hbl2 : b2 < wr.heap.size := by omega
          have hB : Hid (cn p (i + 1) = (bx, by_)) := by show _ = _; rw [← cn_mod, HJ.out, hbb.out]
          have hD : Hid (cn q (k + 1) = (dx, dy)) := by show _ = _; rw [← cn_mod, hl, hd.out]
          have HNa : Hid (NearP (ax, ay)) := by show NearP _; rw [← ha.out]; exact HNP.out (by omega) i
          have HNb : Hid (NearP (bx, by_)) := by show NearP _; rw [← hB.out]; exact HNP.out (by omega) (i + 1)
          have HNc : Hid (NearP (cx, cy)) := by show NearP _; rw [← hc.out]; exact HNQ.out (by omega) k
          have HNd : Hid (NearP (dx, dy)) := by show NearP _; rw [← hD.out]; exact HNQ.out (by omega) (k + 1)
          have HCR : Hid (meetP (cn p i) (cn p (i + 1)) (cn q k) (cn q (k + 1)) = meetP (ax, ay) (bx, by_) (cx, cy) (dx, dy)) := by show _ = _; rw [ha.out, hB.out, hc.out, hD.out]
          obtain ⟨mb, hmb⟩ : ∃ r, meetP (ax, ay) (bx, by_) (cx, cy) (dx, dy) = r := ⟨_, rfl⟩
          have HMB := Lib.hid hmb
          rw [hmb] at HCR
          have HKL := Lib.hid hkl
          clear hmb hl hbb hd hkl
          have hS0 := eight_at hbl hbl2 c0 c1 d0 d1 k0 k1 k2 k3 ((Below.refl wr.heap.size wr).drew)
          go_wp2
          go_region_held3 (fun W => Below wr.heap.size wr W ∧ W.cell? ⟨b, off + i * 2, none⟩ = some (.int .i64 ax) ∧ W.cell? ⟨b, off + i * 2 + 1, none⟩ = some (.int .i64 ay) ∧ W.cell? ⟨b, off + j * 2, none⟩ = some (.int .i64 bx) ∧ W.cell? ⟨b, off + j * 2 + 1, none⟩ = some (.int .i64 by_) ∧ W.cell? ⟨b2, off2 + k * 2, none⟩ = some (.int .i64 cx) ∧ W.cell? ⟨b2, off2 + k * 2 + 1, none⟩ = some (.int .i64 cy) ∧ W.cell? ⟨b2, off2 + l * 2, none⟩ = some (.int .i64 dx) ∧ W.cell? ⟨b2, off2 + l * 2 + 1, none⟩ = some (.int .i64 dy))
            (first
              | exact hS0
              | exact eight_at hbl hbl2 c0 c1 d0 d1 k0 k1 k2 k3 hSa)
            (first
              | (go_at_call 64
                 refine (meet13_any (ax, ay) (bx, by_) (cx, cy) (dx, dy) _ HNa.out HNb.out HNc.out HNd.out).mono ?_
                 rintro e W1 ⟨he, hq⟩
                 rw [HMB.out] at he
                 subst he
                 have hSa : Below wr.heap.size wr W1 := bstep ((Below.refl wr.heap.size wr).drew) (Nat.le_refl _) hq))
          have hb2 := bstep hb hz hSa
          clear hS0 hSa
          cases mb
          · have HX : Hid (crossI p q i (k + 1) = false) := range_none (f := fun k => meetP (cn p i) (cn p (i + 1)) (cn q k) (cn q (k + 1))) hI.out HCR.out
            go_wp2
            go_roundw
            case rel => exact ⟨k + 1, by have := HKL.out; omega, by go_num, HX.out, hb2⟩
            case measure => have := HKL.out; simp [intOf]; omega
          · have HX : Hid (crossB p q = true) := range_hit (f := fun i => crossI p q i q.length) (range_hit (f := fun k => meetP (cn p i) (cn p (i + 1)) (cn q k) (cn q (k + 1))) HCR.out HKL.out) HLT.out
            go_wp2
            go_ret
            exact ⟨ret_bool HX.out.symm, hb2⟩
        · have hki : ¬ (k : Int) < (q.length : Int) := by omega
          have HX : Hid (crossA p q (i + 1) = false) := range_none (f := fun i => crossI p q i q.length) hA.out (by
            have : k = q.length := by omega
            rw [← this]
            have h := hI.out
            rw [this] at h ⊢
            exact h)
          clear hkl
          go_wp2
          go_roundw
          case rel => exact ⟨i + 1, by have := HLT.out; omega, by go_num, HX.out, hb⟩
          case measure => have := HLT.out; simp [intOf]; omega
    · have hli : ¬ (i : Int) < (p.length : Int) := by omega
      have HX : Hid (crossB p q = false) := by
        have : i = p.length := by omega
        have h := hA.out
        rw [this] at h
        exact h
      clear hlt
      go_wp2
      go_ret
      exact ⟨ret_bool HX.out.symm, hb⟩
end Go.Proofs.Ytcnkocnajamclaa

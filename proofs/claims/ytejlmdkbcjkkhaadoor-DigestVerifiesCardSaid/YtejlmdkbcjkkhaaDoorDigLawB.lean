/- Chapter 06: the laws DigestPaths and DigestVerifies, by walking their text. -/
import Derived.Test.YtejlmdkbcjkkhaaDoorDigLawA
namespace Go.Proofs.YtejlmdkbcjkkhaaDoor
open Go Go.RowKit Go.ChangeShapes

set_option maxHeartbeats 1000000 in
theorem paths_law (v : Value) (i : Int) (l : List ByteArray) (i' : Int) (w : World) (hT : TabW w) (hl : Rep.str.slice.R w (Lt w) l [v]) (hz : SliceZ StrZ l) (hi : Rep.int.R w (Lt w) i' (Value.int .i64 i).cells.toList) (_ : True) :
    Calls Tryd.prog 6 #[v, .int .i64 i] w (Ret (.bool true) w) := by
  obtain ⟨rfl, p0, p1⟩ := i64_inv hi
  clear hi
  have HT := Lib.hid hT
  clear hT
  cases hli : lightB l
  · go_enter Tryd.func6, Tryd.ntmps6
    go_wp2_with fail
    refine (light_any _ _ _ hl hz).mono ?_
    rw [hli]
    rintro e w1 ⟨rfl, rfl⟩
    go_wp2_with (go_at_call 13; refine (awake_any _ HT.out).mono ?_; rintro e w1 ⟨rfl, hb⟩)
    go_ret
    exact ⟨rfl, hb⟩
  · obtain ⟨h100, hsm⟩ := light_sm hli
    have hm : l.length ≤ 1000000 := by omega
    by_cases hin : i < 0 ∨ (l.length : Int) ≤ i
    · have c1 := Lib.hid (fun W h => proof_out l v i W h hin)
      have c2 := Lib.hid (fun W h => refProof_out l v i W h hin)
      clear hin
      go_enter Tryd.func6, Tryd.ntmps6
      go_wp2_with fail
      refine (light_any _ _ _ hl hz).mono ?_
      rw [hli]
      rintro e w1 ⟨rfl, rfl⟩
      clear hli hz
      go_wp2_with fail
      refine (c1.out _ hl).mono ?_
      rintro e w1 ⟨rfl, rfl⟩
      go_wp2_with fail
      refine (c2.out _ hl).mono ?_
      rintro e w1 ⟨rfl, rfl⟩
      go_wp2_with fail
      refine (same_any _ _ [] [] _ (Rep.slice_nil _ _ _) (Rep.slice_nil _ _ _)).mono ?_
      rintro e w1 ⟨he, hq⟩
      rw [decide_eq_true rfl] at he
      subst he
      have hb1 := hq.below w.heap.size
      clear hq
      go_wp2_with (go_at_call 13; refine (awake_any _ (HT.out.below hb1)).mono ?_; rintro e w2 ⟨rfl, hb⟩)
      go_ret
      exact ⟨rfl, bstep hb1 hb1.size hb⟩
    · obtain ⟨k, rfl⟩ : ∃ k : Nat, i = k := ⟨i.toNat, by omega⟩
      have hk : k < l.length := by omega
      have c1 := Lib.hid (fun W h => proof_any l.length l v k W (Nat.le_refl _) hm h hsm hk)
      have c2 := Lib.hid (fun W h => refProof_any l.length l v k W (Nat.le_refl _) hm h hsm hk)
      have hpb := Lib.hid (pathL_bd l k).2
      clear hin
      go_enter Tryd.func6, Tryd.ntmps6
      go_wp2_with fail
      refine (light_any _ _ _ hl hz).mono ?_
      rw [hli]
      rintro e w1 ⟨rfl, rfl⟩
      clear hli hz
      go_wp2_with fail
      refine (c1.out _ hl).mono ?_
      rintro e w1 ⟨v1, rfl, ho1, hb1, -⟩
      have hl1 := Rep.below hl hb1
      go_wp2_with fail
      refine (c2.out _ hl1).mono ?_
      rintro e w2 ⟨v2, rfl, ho2, hb2, -⟩
      have h1 := own_u64 (own_below ho1 hb2) hpb.out
      have h2 := own_u64 ho2 hpb.out
      have hw := bstep hb1 hb1.size hb2
      clear ho1 ho2 hb1 hb2 hl1 hl
      go_wp2_with fail
      refine (same_any _ _ _ _ _ h1 h2).mono ?_
      rintro e w3 ⟨he, hq⟩
      rw [decide_eq_true rfl] at he
      subst he
      have hb1 := bstep hw hw.size (hq.below _)
      clear hq h1 h2 hw
      go_wp2_with (go_at_call 13; refine (awake_any _ (HT.out.below hb1)).mono ?_; rintro e w2 ⟨rfl, hb⟩)
      go_ret
      exact ⟨rfl, bstep hb1 hb1.size hb⟩
/-! what Verify is asked. -/
structure Claim where
  root : Int
  s : ByteArray
  i : Int
  n : Int
  p : List Int
def claimR : Rep Claim := (Rep.u64.pair (Rep.str.pair (Rep.int.pair (Rep.int.pair Rep.u64.slice)))).iso (fun c => (c.root, c.s, c.i, c.n, c.p))
def ClaimZ (c : Claim) : Prop := c.s.size ≤ 140737488351232 ∧ c.p.length ≤ 140737488351232
theorem opens_us : OpensZ Tryd.prog 33 Rep.u64.slice (SliceZ (fun _ => True)) := opensZ_slice Tryd.underlying33 (by kernel_rfl) (by decide) (of_decide_eq_true (by kernel_rfl)) opens_u
theorem opens_claim : OpensZ Tryd.prog 40 claimR ClaimZ := by
  have h := opensZ_iso (f := fun c : Claim => (c.root, c.s, c.i, c.n, c.p)) (fun x => ⟨x.1, x.2.1, x.2.2.1, x.2.2.2.1, x.2.2.2.2⟩) (fun _ => rfl)
    (opensZ_struct Tryd.underlying40 (tot := 5) (by kernel_rfl)
      (opensFZ_cons rfl (by kernel_rfl) opens_u (opensFZ_cons rfl (by kernel_rfl) opens_s (opensFZ_cons rfl (by kernel_rfl) opens_i (opensFZ_cons rfl (by kernel_rfl) opens_i (opensFZ_last rfl (by kernel_rfl) opens_us))))))
  intro H enc W sp held fuel cs x hx hz
  obtain ⟨y, hy, hzy⟩ := h H enc W sp held fuel cs x hx hz
  exact ⟨y, hy, hzy.2.1, hzy.2.2.2.2.1⟩
theorem claim_inv {w : World} {D : Nat → Prop} {c : Claim} {cs : Array Value} (h : claimR.R w D c cs.toList) : ∃ v, cs = #[.int .u64 c.root, .string c.s, .int .i64 c.i, .int .i64 c.n, v] ∧ Rep.u64.slice.R w D c.p [v] ∧ -9223372036854775808 ≤ c.n ∧ c.n ≤ 9223372036854775807 := by
  obtain ⟨a1, b1, e, ⟨rfl, _⟩, a2, b2, rfl, ⟨rfl, _⟩, a3, b3, rfl, ⟨rfl, _⟩, a4, b4, rfl, ⟨rfl, h5, h6⟩, hs⟩ := h
  have hl := Rep.u64.slice.len hs
  match b4, hl with
  | [v], _ =>
    refine ⟨v, ?_, hs, h5, h6⟩
    apply Array.ext'
    simpa using e
set_option maxRecDepth 100000 in
set_option maxHeartbeats 1000000 in
theorem verifies_law (cs : Array Value) (c : Claim) (w : World) (hT : TabW w) (hc : claimR.R w (Lt w) c cs.toList) (hz : ClaimZ c) :
    Calls Tryd.prog 7 #[.agg cs] w (Ret (.bool true) w) := by
  obtain ⟨v, rfl, hp, hn0, hn⟩ := claim_inv hc
  obtain ⟨root, s, i, n, p⟩ := c
  obtain ⟨hz1, hz2⟩ := hz
  simp only at hp hn hz1 hz2 hn0
  simp only
  clear hc
  obtain ⟨A, d, rfl, hm, -⟩ := slice_inv hp
  have hw0 : Below w.heap.size w (w.alloc (.cells #[.int .u64 root, .string s, .int .i64 i, .int .i64 n, .slice A p.length d] 40)) := (Below.refl _ _).alloc (Nat.le_refl _) _
  have HT := Lib.hid (hT.below hw0)
  clear hT
  by_cases h1 : 3000 < s.size
  · go_enter Tryd.func7, Tryd.ntmps7
    go_wp2_with fail
    refine (awake_any _ HT.out).mono ?_
    rintro e w1 ⟨rfl, hb⟩
    go_wp2
    go_ret
    exact ⟨rfl, bstep hw0 hw0.size hb⟩
  by_cases h2 : 100 < p.length
  · go_enter Tryd.func7, Tryd.ntmps7
    go_wp2_with fail
    refine (awake_any _ HT.out).mono ?_
    rintro e w1 ⟨rfl, hb⟩
    go_wp2
    go_ret
    exact ⟨rfl, bstep hw0 hw0.size hb⟩
  have hp0 := Rep.below hp hw0
  have eV : (verifyL root s i n p == verifyL root s i n p) = true := by simp
  have c1 := Lib.hid (fun W h => verify_any root s i n (.slice A p.length d) p W h hn (by omega))
  have c2 := Lib.hid (fun W h => refVerify_any root s i n (.slice A p.length d) p W h hn (by omega))
  have b0 := Blk.new w 40 #[.int .u64 root, .string s, .int .i64 i, .int .i64 n, .slice A p.length d]
  generalize verifyL root s i n p = z at *
  go_enter Tryd.func7, Tryd.ntmps7
  go_wp2_with fail
  generalize hw1 : w.alloc (.cells #[.int .u64 root, .string s, .int .i64 i, .int .i64 n, .slice A p.length d] 40) = w1 at *
  have HW1 := Lib.hid hw1
  clear hw1
  have k0 : w1.cell? ⟨w.heap.size, 0, none⟩ = some (.int .u64 root) := b0.cell 0
  have k1 : w1.cell? ⟨w.heap.size, 1, none⟩ = some (.string s) := b0.cell 1
  have k2 : w1.cell? ⟨w.heap.size, 2, none⟩ = some (.int .i64 i) := b0.cell 2
  have k3 : w1.cell? ⟨w.heap.size, 3, none⟩ = some (.int .i64 n) := b0.cell 3
  have k4 : w1.cell? ⟨w.heap.size, 4, none⟩ = some (.slice A p.length d) := b0.cell 4
  have hlt : w.heap.size < w1.heap.size := b0.lt
  clear b0
  go_region_held3 (fun W => Below w1.heap.size w1 W ∧ W.cell? ⟨w.heap.size, 0, none⟩ = some (.int .u64 root) ∧ W.cell? ⟨w.heap.size, 1, none⟩ = some (.string s) ∧ W.cell? ⟨w.heap.size, 2, none⟩ = some (.int .i64 i) ∧ W.cell? ⟨w.heap.size, 3, none⟩ = some (.int .i64 n) ∧ W.cell? ⟨w.heap.size, 4, none⟩ = some (.slice A p.length d))
    (first
      | exact ⟨(Below.refl _ _).drew, k0, k1, k2, k3, k4⟩
      | exact ⟨hSa, (hSa.cell (p := ⟨w.heap.size, 0, none⟩) hlt).trans k0, (hSa.cell (p := ⟨w.heap.size, 1, none⟩) hlt).trans k1, (hSa.cell (p := ⟨w.heap.size, 2, none⟩) hlt).trans k2, (hSa.cell (p := ⟨w.heap.size, 3, none⟩) hlt).trans k3, (hSa.cell (p := ⟨w.heap.size, 4, none⟩) hlt).trans k4⟩
      | exact ⟨hSb, (hSb.cell (p := ⟨w.heap.size, 0, none⟩) hlt).trans k0, (hSb.cell (p := ⟨w.heap.size, 1, none⟩) hlt).trans k1, (hSb.cell (p := ⟨w.heap.size, 2, none⟩) hlt).trans k2, (hSb.cell (p := ⟨w.heap.size, 3, none⟩) hlt).trans k3, (hSb.cell (p := ⟨w.heap.size, 4, none⟩) hlt).trans k4⟩
      | exact ⟨hSc, (hSc.cell (p := ⟨w.heap.size, 0, none⟩) hlt).trans k0, (hSc.cell (p := ⟨w.heap.size, 1, none⟩) hlt).trans k1, (hSc.cell (p := ⟨w.heap.size, 2, none⟩) hlt).trans k2, (hSc.cell (p := ⟨w.heap.size, 3, none⟩) hlt).trans k3, (hSc.cell (p := ⟨w.heap.size, 4, none⟩) hlt).trans k4⟩)
    (first
      | (go_at_call 24
         go_split_ands
         refine (c1.out _ (Rep.below hp0 (by assumption))).mono ?_
         rintro e W1 ⟨rfl, hb⟩
         have hSa := bstep (B := w1.heap.size) (a := w1) (by assumption) (Below.size (by assumption)) hb)
      | (go_at_call 25
         go_split_ands
         refine (c2.out _ (Rep.below hp0 (by assumption))).mono ?_
         rintro e W1 ⟨rfl, hb⟩
         have hSb := bstep (B := w1.heap.size) (a := w1) (by assumption) (Below.size (by assumption)) hb)
      | (go_at_call 13
         go_split_ands
         refine (awake_any _ (HT.out.below (by assumption))).mono ?_
         rintro e W1 ⟨rfl, hb⟩
         have hSc := bstep (B := w1.heap.size) (a := w1) (by assumption) (Below.size (by assumption)) hb))
  all_goals
    go_wp2
    go_ret
    go_split_ands
    exact ⟨rfl, bstep hw0 hw0.size (by assumption)⟩
end Go.Proofs.YtejlmdkbcjkkhaaDoor

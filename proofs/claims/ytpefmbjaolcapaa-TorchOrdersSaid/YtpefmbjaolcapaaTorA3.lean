/- Chapter 26: the reference's search for the least travel that is left: its memory, its step, by walking its text. -/
import Derived.Test.YtpefmbjaolcapaaTorA2
namespace Go.Proofs.Ytpefmbjaolcapaa
open Go Go.RowKit

def fromP (pts : List Pt) (l : Nat) : Pt := if l < pts.length then ptAt pts l else (0, 0)
structure RestIs (all pts : List Pt) (xs : List Int) : Prop where
  size : xs.length = (all.length + 1) * 2 ^ all.length
  at_ : ∀ s l, s < 2 ^ all.length → l ≤ all.length → ∃ v, xs[s * (all.length + 1) + l]? = some v ∧ -1 ≤ v ∧ (0 ≤ v → v = restF all (ptAt pts) (all.length - cardS all.length s) s (fromP pts l))
theorem idx_lt {n s l : Nat} (hs : s < 2 ^ n) (hl : l ≤ n) : s * (n + 1) + l < (n + 1) * 2 ^ n := by
  have h1 : (s + 1) * (n + 1) ≤ 2 ^ n * (n + 1) := Nat.mul_le_mul_right _ hs
  rw [Nat.mul_comm (n + 1) (2 ^ n)]
  rw [Nat.add_mul, Nat.one_mul] at h1
  omega
theorem idx_inj {n s l s' l' : Nat} (hl : l ≤ n) (hl' : l' ≤ n) (h : s * (n + 1) + l = s' * (n + 1) + l') : s = s' ∧ l = l' := by
  have h1 : (s * (n + 1) + l) / (n + 1) = s := by rw [Nat.mul_comm, Nat.mul_add_div (by omega), Nat.div_eq_of_lt (by omega)]; rfl
  have h2 : (s' * (n + 1) + l') / (n + 1) = s' := by rw [Nat.mul_comm, Nat.mul_add_div (by omega), Nat.div_eq_of_lt (by omega)]; rfl
  have h3 : s = s' := by rw [← h1, h, h2]
  subst h3
  exact ⟨rfl, by omega⟩
theorem RestIs.put {all pts : List Pt} {xs : List Int} {s l : Nat} {r : Int} (h : RestIs all pts xs) (hs : s < 2 ^ all.length) (hl : l ≤ all.length) (h0 : 0 ≤ r) (hr : r = restF all (ptAt pts) (all.length - cardS all.length s) s (fromP pts l)) :
    RestIs all pts (xs.set (s * (all.length + 1) + l) r) := by
  refine ⟨by rw [List.length_set]; exact h.size, fun s' l' hs' hl' => ?_⟩
  have hi := idx_lt hs hl
  by_cases e : s' = s ∧ l' = l
  · obtain ⟨rfl, rfl⟩ := e
    refine ⟨r, ?_, by omega, fun _ => hr⟩
    rw [List.getElem?_set, if_pos rfl, if_pos (by rw [h.size]; exact hi)]
  · obtain ⟨v, h1, h2⟩ := h.at_ s' l' hs' hl'
    refine ⟨v, ?_, h2⟩
    rw [List.getElem?_set, if_neg (fun e' => e (by obtain ⟨a, b⟩ := idx_inj hl hl' e'; exact ⟨a.symm, b.symm⟩))]
    exact h1
theorem RestIs.new (all pts : List Pt) : RestIs all pts (List.replicate ((all.length + 1) * 2 ^ all.length) (-1)) := by
  refine ⟨by simp, fun s l hs hl => ⟨-1, ?_, by omega, fun h => by omega⟩⟩
  rw [List.getElem?_replicate, if_pos (idx_lt hs hl)]
theorem full_all : ∀ n : Fin 10, ∀ s : Fin 512, (s : Nat) < 2 ^ (n : Nat) → decide ((s : Nat) + 1 = 2 ^ (n : Nat)) = decide (cardS n s = n) := by decide +kernel
theorem full_iff {n s : Nat} (hn : n ≤ 9) (hs : s < 2 ^ n) : s + 1 = 2 ^ n ↔ cardS n s = n := by
  have h5 : s < 512 := Nat.lt_of_lt_of_le hs (Nat.pow_le_pow_right (by omega) hn)
  have h := full_all ⟨n, by omega⟩ ⟨s, h5⟩ hs
  simpa using h
theorem add_lt2 {n s k : Nat} (hs : s < 2 ^ n) (hk : k < n) : addS s k < 2 ^ n := Nat.or_lt_two_pow hs (Nat.pow_lt_pow_right (by omega) hk)
theorem pow10_all : ∀ k : Fin 10, IntKind.i64.wrap ((2 : Int) ^ (k : Nat)) = 2 ^ (k : Nat) := by decide +kernel
theorem pow10_sub : ∀ k : Fin 10, IntKind.i64.wrap ((2 : Int) ^ (k : Nat) - 1) = 2 ^ (k : Nat) - 1 := by decide +kernel
theorem rest_best {all : List Pt} {P : Nat → Pt} {f s : Nat} {a : Pt} (hN : all.Nodup) (h : cardS all.length s + (f + 1) = all.length) : restTo all P f s a all.length = restF all P (f + 1) s a := by
  obtain ⟨-, -, h3, -⟩ := pick_best (P := P) (f := f) (s := s) (a := a) all.length (may_ex hN (by omega))
  have h4 := cost_pos (all := all) (P := P) (f := f) (s := s) (a := a) (pickTo all P f s a all.length)
  rw [restF_is]
  omega
structure SR (gr : Nat) (A B : Option Addr) (c d : Nat) (all pts : List Pt) (w : World) : Prop where
  blk : ∃ xs, Blk w gr 3 (intsArr xs) ∧ RestIs all pts xs
  ra : prR.slice.R w (Ok3 gr gr gr w) all [.slice A all.length c]
  rp : prR.slice.R w (Ok3 gr gr gr w) pts [.slice B all.length d]
theorem SR.below {gr : Nat} {A B : Option Addr} {c d : Nat} {all pts : List Pt} {w w' : World} (h : SR gr A B c d all pts w) (hb : Below w.heap.size w w') : SR gr A B c d all pts w' := by
  obtain ⟨xs, h1, h2⟩ := h.blk
  exact ⟨⟨xs, h1.below hb h1.lt, h2⟩, (Kept.of hb).rep h.ra, (Kept.of hb).rep h.rp⟩
def RLPost (gr : Nat) (A B : Option Addr) (c d : Nat) (all pts : List Pt) (r : Int) (w : World) (en : Ending) (w' : World) : Prop :=
  en = .returned (.int .i64 r) ∧ Kept gr gr gr w w' ∧ SR gr A B c d all pts w'
theorem SR.put {gr : Nat} {A B : Option Addr} {c d : Nat} {all pts : List Pt} {w : World} {s l : Nat} {r : Int} (h : SR gr A B c d all pts w) (hs : s < 2 ^ all.length) (hl : l ≤ all.length) (h0 : 0 ≤ r) (hr : r = restF all (ptAt pts) (all.length - cardS all.length s) s (fromP pts l)) :
    SR gr A B c d all pts (w.setCell ⟨gr, s * (all.length + 1) + l, none⟩ (.int .i64 r)) := by
  obtain ⟨xs, h1, h2⟩ := h.blk
  have hk : Kept gr gr gr w (w.setCell ⟨gr, s * (all.length + 1) + l, none⟩ (.int .i64 r)) := (Kept.refl gr gr gr w).set (p := ⟨gr, s * (all.length + 1) + l, none⟩) (.inl rfl) _
  refine ⟨⟨_, ?_, h2.put hs hl h0 hr⟩, hk.rep h.ra, hk.rep h.rp⟩
  rw [← intsArr_set]
  exact h1.set_ _ _
def planC (A B : Option Addr) (n c d gr R rc : Nat) : Array Value := #[.slice A n c, .slice B n d, .slice (some ⟨gr, 0, none⟩) R rc]
theorem Near.zero : Near ((0 : Int), (0 : Int)) := ⟨by decide, by decide⟩
theorem from_near {all pts : List Pt} (hF : Fine all pts) (l : Nat) : Near (fromP pts l) := by
  unfold fromP
  split
  · rename_i h; exact hF.at_ (by rw [← hF.len]; exact h)
  · exact Near.zero
theorem from_lt {all pts : List Pt} (hF : Fine all pts) {l : Nat} (h : l < all.length) : fromP pts l = ptAt pts l := if_pos (by rw [hF.len]; exact h)
set_option maxRecDepth 100000 in
set_option maxHeartbeats 4000000 in
theorem refLeast_step (gr : Nat) (A B : Option Addr) (c d rc R : Nat) (all pts : List Pt) (hF : Fine all pts) (hR : R = (all.length + 1) * 2 ^ all.length) (hp : ∀ x ∈ all, 0 ≤ x.2) (f : Nat)
    (ih : ∀ f', f' + 1 = f → ∀ (s l : Nat) (qx qy : Int) (w : World), cardS all.length s + f' = all.length → s < 2 ^ all.length → l ≤ all.length → fromP pts l = (qx, qy) → SR gr A B c d all pts w →
      Calls Try.prog 43 #[.agg #[.slice A all.length c, .slice B all.length d, .slice (some ⟨gr, 0, none⟩) R rc], .int .i64 s, .int .i64 l, .agg #[.int .i64 qx, .int .i64 qy]] w (RLPost gr A B c d all pts (restF all (ptAt pts) f' s (qx, qy)) w))
    (s l : Nat) (ax ay : Int) (w : World) (hcard : cardS all.length s + f = all.length) (hs : s < 2 ^ all.length) (hl : l ≤ all.length) (hfrom : fromP pts l = (ax, ay)) (h : SR gr A B c d all pts w) :
    Calls Try.prog 43 #[.agg #[.slice A all.length c, .slice B all.length d, .slice (some ⟨gr, 0, none⟩) R rc], .int .i64 s, .int .i64 l, .agg #[.int .i64 ax, .int .i64 ay]] w (RLPost gr A B c d all pts (restF all (ptAt pts) f s (ax, ay)) w) := by
  have h9 := hF.n9
  have hpl := Lib.hid hF.len
  have IH := Lib.hid ih
  have hpw : IntKind.i64.wrap ((2 : Int) ^ all.length) = 2 ^ all.length := pow10_all ⟨all.length, by omega⟩
  have hpw1 : IntKind.i64.wrap ((2 : Int) ^ all.length - 1) = 2 ^ all.length - 1 := pow10_sub ⟨all.length, by omega⟩
  have h512 : 2 ^ all.length ≤ 512 := Nat.pow_le_pow_right (n := 2) (by omega) h9
  have hs512 : s < 512 := by omega
  obtain ⟨m, hm⟩ : ∃ m, s * (all.length + 1) = m := ⟨_, rfl⟩
  obtain ⟨q, hq⟩ : ∃ q, m + l = q := ⟨_, rfl⟩
  have hidx := idx_lt hs hl
  rw [hm, hq, ← hR] at hidx
  have hm5 : m ≤ 5120 := by
    rw [← hm]
    exact Nat.le_trans (Nat.mul_le_mul (show s ≤ 512 by omega) (show all.length + 1 ≤ 10 by omega)) (by decide)
  have hR5 : R ≤ 5120 := by
    rw [hR]
    exact Nat.le_trans (Nat.mul_le_mul (show all.length + 1 ≤ 10 by omega) h512) (by decide)
  have hmI : (s : Int) * ((all.length : Int) + 1) = (m : Int) := by rw [← hm]; push_cast; rfl
  have hmW : IntKind.i64.wrap ((s : Int) * ((all.length : Int) + 1)) = (m : Int) := by rw [hmI]; exact IntWalk.i64_in _ (by omega)
  have hqI : (m : Int) + (l : Int) = (q : Int) := by omega
  have hqW : IntKind.i64.wrap ((m : Int) + (l : Int)) = (q : Int) := by rw [hqI]; exact IntWalk.i64_in _ (by omega)
  have hqlt : (q : Int) < (R : Int) := by omega
  obtain ⟨xs, hgr, hrest⟩ := h.blk
  obtain ⟨v, hxv, hv1, hv2⟩ := hrest.at_ s l hs hl
  rw [hm, hq] at hxv
  have hgl := hgr.lt
  have cq := hgr.cell q
  rw [intsArr_get hxv] at cq
  have HQ : Hid (s * (all.length + 1) + l = q) := by show _ = _; rw [hm, hq]
  have HH := Lib.hid h
  have HR := Lib.hid hR
  have HPP := Lib.hid hp
  have HCA := Lib.hid hcard
  have HSS := Lib.hid hs
  have hb0 : Below w.heap.size w ((w.alloc (.cells #[.slice A all.length c, .slice B all.length d, .slice (some ⟨gr, 0, none⟩) R rc] 74)).alloc (.cells #[.int .i64 ax, .int .i64 ay] 28)) := ((Below.refl _ _).alloc (Nat.le_refl _) _).alloc (by simp) _
  have hng : ¬ gr = w.heap.size := by omega
  have hng1 : ¬ gr = w.heap.size + 1 := by omega
  by_cases hfull : s + 1 = 2 ^ all.length
  · have hfz : f = 0 := by have := (full_iff h9 hs).1 hfull; omega
    have hg : ((s : Int) == 2 ^ all.length - 1) = true := by
      rw [beq_iff_eq]
      have : ((s + 1 : Nat) : Int) = ((2 ^ all.length : Nat) : Int) := by rw [hfull]
      push_cast at this
      omega
    clear hm hq hR hp ih hrest hgr h hfull hcard hs
    go_enter Try.func43, Try.ntmps43
    go_wp2
    go_ret
    refine ⟨?_, Kept.of hb0, HH.out.below hb0⟩
    rw [hfz, restF]
    rfl
  · have hg : ((s : Int) == 2 ^ all.length - 1) = false := by
      apply ieq_f
      intro e
      apply hfull
      have : ((s + 1 : Nat) : Int) = ((2 ^ all.length : Nat) : Int) := by push_cast; omega
      exact_mod_cast this
    obtain ⟨f', hf'⟩ : ∃ f', f = f' + 1 := by
      have h1 : ¬ cardS all.length s = all.length := fun e => hfull ((full_iff h9 hs).2 e)
      exact ⟨f - 1, by omega⟩
    have hff : all.length - cardS all.length s = f := by omega
    rw [hff, hfrom] at hv2
    by_cases hv0 : 0 ≤ v
    · have hvd : decide (0 ≤ v) = true := decide_eq_true hv0
      have HV : Hid (v = restF all (ptAt pts) f s (ax, ay)) := hv2 hv0
      clear hm hq hR hp ih hrest hgr h hfull hcard hs hv2 hxv hf' hff
      go_enter Try.func43, Try.ntmps43
      go_wp2
      go_ret
      refine ⟨?_, Kept.of hb0, HH.out.below hb0⟩
      rw [← HV.out]
      rfl
    · have hvd : decide (0 ≤ v) = false := decide_eq_false hv0
      subst hf'
      have hna : Near (ax, ay) := by rw [← hfrom]; exact from_near hF l
      have HNA := Lib.hid hna
      have HFR := Lib.hid hfrom
      have HFF := Lib.hid hff
      have hcard1 : cardS all.length s + (f' + 1) = all.length := hcard
      have hf9 : f' ≤ 8 := by omega
      have p4 := (Blk.new w 74 #[.slice A all.length c, .slice B all.length d, .slice (some ⟨gr, 0, none⟩) R rc]).alloc (.cells #[.int .i64 ax, .int .i64 ay] 28)
      have p7 := Blk.new (w.alloc (.cells #[.slice A all.length c, .slice B all.length d, .slice (some ⟨gr, 0, none⟩) R rc] 74)) 28 #[.int .i64 ax, .int .i64 ay]
      rw [World.size_alloc] at p7
      have hsr0 := h.below hb0
      have hii : ∀ k : Nat, IntKind.i64.wrap ((2 : Int) ^ k) = (2 : Int) ^ k ∨ 9 < k := fun k => by
        by_cases hk : 9 < k
        · exact .inr hk
        · exact .inl (pow10_all ⟨k, by omega⟩)
      have HII := Lib.hid hii
      clear hm hq hR hp ih hrest hgr h hfull hcard hs hv2 hxv hff hii hfrom hna
      go_enter Try.func43, Try.ntmps43
      go_wp2
      obtain ⟨w0, hw0⟩ : ∃ w0, w0 = (w.alloc (.cells #[.slice A all.length c, .slice B all.length d, .slice (some ⟨gr, 0, none⟩) R rc] 74)).alloc (.cells #[.int .i64 ax, .int .i64 ay] 28) := ⟨_, rfl⟩
      rw [← hw0] at p4 p7 hb0 hsr0 ⊢
      clear hw0 cq
      obtain ⟨g4, hg4⟩ : ∃ g, g = w.heap.size := ⟨_, rfl⟩
      have hg4l : g4 < w0.heap.size := by rw [hg4]; exact p4.lt
      rw [← hg4] at p4 p7 hng hng1 ⊢
      have HG4 := Lib.hid hg4
      clear hg4
      go_loopw [10, 11] (fun bv iv wr => ∃ k : Nat, k ≤ all.length ∧ iv = .int .i64 k ∧ bv = .int .i64 (restTo all (ptAt pts) f' s (ax, ay) k) ∧ SR gr A B c d all pts wr ∧ Kept gr gr gr w0 wr) (fun _ iv _ => all.length - (intOf iv).toNat)
      case atStart => exact ⟨0, Nat.zero_le _, rfl, rfl, hsr0, Kept.refl _ _ _ _⟩
      case round =>
        obtain ⟨k, hk, rfl, rfl, hsr, hkp⟩ := hrel
        have hng' : g4 ≠ gr := fun e => hng e.symm
        have hng1' : g4 + 1 ≠ gr := fun e => hng1 e.symm
        have p4r := hkp.blk p4 ⟨hng', hng', hng'⟩
        have p7r := hkp.blk p7 ⟨hng1', hng1', hng1'⟩
        have e0 : wr.cell? ⟨g4, 0, none⟩ = some (.slice A all.length c) := p4r.cell 0
        have e1 : wr.cell? ⟨g4, 1, none⟩ = some (.slice B all.length d) := p4r.cell 1
        have e2 : wr.cell? ⟨g4, 2, none⟩ = some (.slice (some ⟨gr, 0, none⟩) R rc) := p4r.cell 2
        by_cases hkl : k < all.length
        · have hki : (k : Int) < (all.length : Int) := by omega
          have HRS := Lib.hid (restTo_succ (all := all) (P := ptAt pts) (f := f') (s := s) (a := (ax, ay)) (k := k))
          have hrt := restTo_bd (all := all) (P := ptAt pts) (fun j hj => hF.at_ hj) f' s (ax, ay) HNA.out k hk
          obtain ⟨hrt0, hrt1⟩ := hrt
          obtain ⟨bp, offp, bx, by_, rfl, hpk, hbpD, t0, t1, -⟩ := pairs_at hsr.rp (show k < pts.length by rw [hpl.out]; exact hkl)
          have HP : Hid (ptAt pts k = (bx, by_)) := getD_at hpk.out
          have HFK : Hid (fromP pts k = (bx, by_)) := by show _ = _; rw [from_lt hF hkl]; exact HP.out
          have hbg : bp ≠ gr := hbpD.2.1
          have q0 := p7r.c20
          have q1 := p7r.c21
          have hC := permitted_any A (some ⟨bp, offp, none⟩) (some ⟨gr, 0, none⟩) c all.length d R rc all s k wr (rep_lt hsr.ra) hF.nd h9 hs512 hkl HPP.out
          rw [HP.out] at HRS
          generalize hbe : restTo all (ptAt pts) f' s (ax, ay) k = best at *
          have HBE := Lib.hid hbe
          clear hbe
          rcases Bool.eq_false_or_eq_true (mayS all s k) with hmy | hmy
          · rw [hmy] at hC
            have HM := Lib.hid hmy
            have HCK : Hid (cardS all.length (addS s k) + f' = all.length) := by
              show _ = _
              have := card_add (n := all.length) hkl (may_not hmy)
              omega
            obtain ⟨mv, hmv⟩ : ∃ r, moveF (ax, ay) (bx, by_) = r := ⟨_, rfl⟩
            obtain ⟨rest, hrest⟩ : ∃ r, restF all (ptAt pts) f' (addS s k) (bx, by_) = r := ⟨_, rfl⟩
            have hnb : Near (bx, by_) := by rw [← HP.out]; exact hF.at_ hkl
            have hmb := move_bd HNA.out hnb
            have hrb := restF_bd (all := all) (P := ptAt pts) (fun j hj => hF.at_ hj) f' (addS s k) (bx, by_) hnb
            rw [hmv] at hmb
            rw [hrest] at hrb
            obtain ⟨hmb0, hmb1⟩ := hmb
            obtain ⟨hrb0, hrb1⟩ := hrb
            have hrb2 : rest ≤ 19791209299968 := by omega
            have hsum : IntKind.i64.wrap (mv + rest) = mv + rest := IntWalk.i64_in _ (by omega)
            have hor := or_at (s := s) (k := k) hs512 (by omega)
            have hkw : IntKind.i64.wrap ((2 : Int) ^ k) = 2 ^ k := pow_wrap (by omega)
            have hku : IntKind.u64.wrap (k : Int) = (k : Int) := IntWalk.u64_in _ (by omega)
            have hkm : min k 64 = k := by omega
            rw [HM.out, if_pos rfl, hmv, hrest] at HRS
            have HMV : Hid (∀ W, Calls Try.prog 27 #[.agg #[.int .i64 ax, .int .i64 ay], .agg #[.int .i64 bx, .int .i64 by_]] W (Ret (.int .i64 mv) W)) := fun W => by
              have h := refMove_any (ax, ay) (bx, by_) W HNA.out.1 HNA.out.2 hnb.1 hnb.2
              rw [hmv] at h
              exact h
            have HIK : Hid (∀ W, SR gr A (some ⟨bp, offp, none⟩) c d all pts W → Calls Try.prog 43 #[.agg #[.slice A all.length c, .slice (some ⟨bp, offp, none⟩) all.length d, .slice (some ⟨gr, 0, none⟩) R rc], .int .i64 (addS s k : Nat), .int .i64 k, .agg #[.int .i64 bx, .int .i64 by_]] W (RLPost gr A (some ⟨bp, offp, none⟩) c d all pts rest W)) := fun W h => by
              rw [← hrest]
              exact IH.out f' rfl (addS s k) k bx by_ W HCK.out (add_lt2 HSS.out hkl) (Nat.le_of_lt hkl) HFK.out h
            clear hmv hrest hmy hnb hrb1 hrt1
            go_wp2_with fail
            refine hC.mono ?_
            rintro e w1 ⟨rfl, hq⟩
            have hsr1 := hsr.below hq
            have hkp1 := hkp.trans (Kept.of hq)
            have HCS : Hid (∀ W, SR gr A (some ⟨bp, offp, none⟩) c d all pts W → Kept gr gr gr w1 W → SR gr A (some ⟨bp, offp, none⟩) c d all pts W ∧ Kept gr gr gr w1 W ∧ W.cell? ⟨g4 + 1, 0, none⟩ = some (.int .i64 ax) ∧ W.cell? ⟨g4 + 1, 1, none⟩ = some (.int .i64 ay) ∧ W.cell? ⟨g4, 0, none⟩ = some (.slice A all.length c) ∧ W.cell? ⟨g4, 1, none⟩ = some (.slice (some ⟨bp, offp, none⟩) all.length d) ∧ W.cell? ⟨g4, 2, none⟩ = some (.slice (some ⟨gr, 0, none⟩) R rc) ∧ W.cell? ⟨bp, offp + k * 2, none⟩ = some (.int .i64 bx) ∧ W.cell? ⟨bp, offp + k * 2 + 1, none⟩ = some (.int .i64 by_)) := fun W h1 h2 =>
              ⟨h1, h2, h2.cell (bget hq q0) ⟨hng1', hng1', hng1'⟩, h2.cell (bget hq q1) ⟨hng1', hng1', hng1'⟩, h2.cell (bget hq e0) ⟨hng', hng', hng'⟩, h2.cell (bget hq e1) ⟨hng', hng', hng'⟩, h2.cell (bget hq e2) ⟨hng', hng', hng'⟩, h2.cell (bget hq t0) ⟨hbg, hbg, hbg⟩, h2.cell (bget hq t1) ⟨hbg, hbg, hbg⟩⟩
            have HD1 : Hid (SR gr A (some ⟨bp, offp, none⟩) c d all pts w1.drew) := hsr1.below ((Below.refl _ _).drew)
            have HD2 : Hid (Kept gr gr gr w1 w1.drew) := Kept.of ((Below.refl _ _).drew)
            have HK1 := Lib.hid hkp1
            have e0' := bget hq e0
            have e1' := bget hq e1
            have e2' := bget hq e2
            have hkp2 : (k : Int) < (all.length : Int) := hki
            clear hC hsr hkp hsr1 hkp1 q0 q1 t0 t1 p4r p7r hq
            go_wp2
            go_region_held3 (fun W => SR gr A (some ⟨bp, offp, none⟩) c d all pts W ∧ Kept gr gr gr w1 W ∧ W.cell? ⟨g4 + 1, 0, none⟩ = some (.int .i64 ax) ∧ W.cell? ⟨g4 + 1, 1, none⟩ = some (.int .i64 ay) ∧ W.cell? ⟨g4, 0, none⟩ = some (.slice A all.length c) ∧ W.cell? ⟨g4, 1, none⟩ = some (.slice (some ⟨bp, offp, none⟩) all.length d) ∧ W.cell? ⟨g4, 2, none⟩ = some (.slice (some ⟨gr, 0, none⟩) R rc) ∧ W.cell? ⟨bp, offp + k * 2, none⟩ = some (.int .i64 bx) ∧ W.cell? ⟨bp, offp + k * 2 + 1, none⟩ = some (.int .i64 by_))
              (first
                | exact HCS.out _ HD1.out HD2.out
                | exact HCS.out _ hSa.1 hSa.2)
              (first
                | ((go_at_call 27
                    go_split_ands
                    (with_reducible refine (HMV.out _).mono ?_)
                    rintro en W1 ⟨rfl, hq⟩
                    have hSa : SR gr A (some ⟨bp, offp, none⟩) c d all pts W1 ∧ Kept gr gr gr w1 W1 := ⟨SR.below (by assumption) hq, Kept.trans (by assumption) (Kept.of hq)⟩))
                | ((go_at_call 43
                    go_split_ands
                    (with_reducible refine (HIK.out _ (by assumption)).mono ?_)
                    rintro en W1 ⟨rfl, hq, hq2⟩
                    have hSa : SR gr A (some ⟨bp, offp, none⟩) c d all pts W1 ∧ Kept gr gr gr w1 W1 := ⟨hq2, Kept.trans (by assumption) hq⟩)))
            all_goals
              have hfin1 := hSa.1
              have hfin2 := HK1.out.trans hSa.2
              clear hSa
              rcases @pickS best (mv + rest) with ⟨p1, p2⟩ | ⟨p1, p3, p2⟩ | ⟨p1, p3, p2⟩
              all_goals
                rw [p2] at HRS
                clear p2
                go_wp2
                go_roundw
                case rel => exact ⟨k + 1, by omega, by go_num, by rw [HRS.out], hfin1, hfin2⟩
                case measure => simp [intOf]; omega
          · rw [hmy] at hC
            rw [if_neg (by rw [hmy]; decide)] at HRS
            clear hmy hrt1
            go_wp2_with fail
            refine hC.mono ?_
            rintro e w1 ⟨rfl, hq⟩
            have hsr1 := hsr.below hq
            have hkp1 := hkp.trans (Kept.of hq)
            clear hC hsr hkp q0 q1 t0 t1 p4r p7r e0 e1 e2
            go_wp2
            go_roundw
            case rel => exact ⟨k + 1, by omega, by go_num, by rw [HRS.out], hsr1, hkp1⟩
            case measure => simp [intOf]; omega
        · obtain rfl : k = all.length := by omega
          have hki : ¬ (all.length : Int) < (all.length : Int) := by omega
          have hrbest := rest_best (P := ptAt pts) (a := (ax, ay)) hF.nd hcard1
          have hpos := rest_pos (all := all) (P := ptAt pts) (f' + 1) s (ax, ay)
          rw [← hrbest] at hpos
          have HRV := Lib.hid hrbest
          generalize hbe : restTo all (ptAt pts) f' s (ax, ay) all.length = best at *
          obtain ⟨xs2, hg2, hr2⟩ := hsr.blk
          obtain ⟨v2, hx2, -, -⟩ := hr2.at_ s l HSS.out hl
          rw [HQ.out] at hx2
          have cq2 := hg2.cell q
          rw [intsArr_get hx2] at cq2
          have fq := hg2.free q
          have hput := hsr.put HSS.out hl hpos (by rw [HFF.out, HFR.out]; exact hrbest)
          rw [HQ.out] at hput
          have hkf := ((Kept.of hb0).trans hkp).set (p := ⟨gr, q, none⟩) (.inl rfl) (.int .i64 best)
          clear hrbest hbe hg2 hr2 hx2 hsr hkp p4r p7r
          go_wp2
          go_ret
          refine ⟨?_, hkf, hput⟩
          rw [← HRV.out]
          rfl
theorem refLeast_any (gr : Nat) (A B : Option Addr) (c d rc R : Nat) (all pts : List Pt) (hF : Fine all pts) (hR : R = (all.length + 1) * 2 ^ all.length) (hp : ∀ x ∈ all, 0 ≤ x.2) :
    ∀ (f s l : Nat) (qx qy : Int) (w : World), cardS all.length s + f = all.length → s < 2 ^ all.length → l ≤ all.length → fromP pts l = (qx, qy) → SR gr A B c d all pts w →
      Calls Try.prog 43 #[.agg #[.slice A all.length c, .slice B all.length d, .slice (some ⟨gr, 0, none⟩) R rc], .int .i64 s, .int .i64 l, .agg #[.int .i64 qx, .int .i64 qy]] w (RLPost gr A B c d all pts (restF all (ptAt pts) f s (qx, qy)) w)
  | 0, s, l, qx, qy, w, h1, h2, h3, h4, h5 => refLeast_step gr A B c d rc R all pts hF hR hp 0 (fun f' hf' => by omega) s l qx qy w h1 h2 h3 h4 h5
  | f + 1, s, l, qx, qy, w, h1, h2, h3, h4, h5 => refLeast_step gr A B c d rc R all pts hF hR hp (f + 1) (fun f' hf' => by
      have e : f' = f := by omega
      subst e
      exact refLeast_any gr A B c d rc R all pts hF hR hp f') s l qx qy w h1 h2 h3 h4 h5
end Go.Proofs.Ytpefmbjaolcapaa

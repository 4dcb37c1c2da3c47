/- Chapter 26: the function that Best hands to next, by walking the program's text. -/
import Derived.Test.YtpefmbjaolcapaaTorY4
namespace Go.Proofs.Ytpefmbjaolcapaa
open Go Go.RowKit

/-- which contour comes next: of the best the first. -/
def pickTo (all : List Pt) (P : Nat → Pt) (f s : Nat) (a : Pt) : Nat → Nat
  | 0 => 0
  | k + 1 => if mayS all s k = true then (if restTo all P f s a k < 0 ∨ moveF a (P k) + restF all P f (addS s k) (P k) < restTo all P f s a k then k else pickTo all P f s a k) else pickTo all P f s a k
/-- what the function that Best hands to next keeps: behind k contours. -/
structure IB (gs g5 g8 g9 g10 g11 : Nat) (A B : Option Addr) (c d : Nat) (all pts : List Pt) (f set : Nat) (a : Pt) (k : Nat) (w : World) : Prop where
  blk : ∃ cs, Blk w gs 66 cs ∧ MemoIs all pts (.slice A all.length c) (.slice B pts.length d) cs
  ra : prR.slice.R w (Ok3 gs g10 g11 w) all [.slice A all.length c]
  rp : prR.slice.R w (Ok3 gs g10 g11 w) pts [.slice B pts.length d]
  b5 : Blk w g5 60 #[.pointer (some ⟨gs, 0, none⟩)]
  b8 : Blk w g8 28 #[.int .i64 a.1, .int .i64 a.2]
  b9 : Blk w g9 3 #[.int .i64 set]
  b10 : Blk w g10 3 #[.int .i64 (restTo all (ptAt pts) f set a k)]
  b11 : Blk w g11 3 #[.int .i64 (pickTo all (ptAt pts) f set a k)]
theorem IB.ss {gs g5 g8 g9 g10 g11 : Nat} {A B : Option Addr} {c d : Nat} {all pts : List Pt} {f set : Nat} {a : Pt} {k : Nat} {w : World} (h : IB gs g5 g8 g9 g10 g11 A B c d all pts f set a k w) : SS gs gs A B c d all pts w :=
  ⟨h.blk, Rep.mono _ (fun i (hi : Ok3 gs g10 g11 w i) => (⟨hi.1, hi.2.1, hi.2.1, hi.2.1⟩ : Ok3 gs gs gs w i)) h.ra, Rep.mono _ (fun i (hi : Ok3 gs g10 g11 w i) => (⟨hi.1, hi.2.1, hi.2.1, hi.2.1⟩ : Ok3 gs gs gs w i)) h.rp⟩
theorem Kept.weak2 {a e e' : Nat} {w w' : World} (h : Kept a a a w w') : Kept a e e' w w' := ⟨h.os, h.tape, h.output, h.size, fun i hi => h.block i ⟨hi.1, hi.2.1, hi.2.1, hi.2.1⟩⟩
def Apart6 (gs g5 g8 g9 g10 g11 : Nat) : Prop := (g5 ≠ gs ∧ g5 ≠ g10 ∧ g5 ≠ g11) ∧ (g8 ≠ gs ∧ g8 ≠ g10 ∧ g8 ≠ g11) ∧ (g9 ≠ gs ∧ g9 ≠ g10 ∧ g9 ≠ g11) ∧ g10 ≠ gs ∧ g11 ≠ gs ∧ g10 ≠ g11
theorem pickT {best n : Int} {p k : Nat} : (best < 0 ∧ better best n = n ∧ (if best < 0 ∨ n < best then k else p) = k) ∨ (¬ best < 0 ∧ n < best ∧ better best n = n ∧ (if best < 0 ∨ n < best then k else p) = k) ∨ (¬ best < 0 ∧ ¬ n < best ∧ better best n = best ∧ (if best < 0 ∨ n < best then k else p) = p) := by
  unfold better
  by_cases h1 : best < 0
  · exact .inl ⟨h1, if_pos h1, if_pos (.inl h1)⟩
  · by_cases h2 : n < best
    · exact .inr (.inl ⟨h1, h2, by rw [if_neg h1, if_pos h2], if_pos (.inr h2)⟩)
    · exact .inr (.inr ⟨h1, h2, by rw [if_neg h1, if_neg h2], if_neg (by omega)⟩)
section
variable {gs g5 g8 g9 g10 g11 : Nat} {A B : Option Addr} {c d : Nat} {all pts : List Pt} {f set : Nat} {a : Pt} {k : Nat} {w W : World}
/-- behind a contour that is better. -/
theorem IB.take (h : IB gs g5 g8 g9 g10 g11 A B c d all pts f set a k w) (hap : Apart6 gs g5 g8 g9 g10 g11) (hs : SS gs gs A B c d all pts W) (hk : Kept gs gs gs w W) (r : Int) (p : Nat) (hr : restTo all (ptAt pts) f set a (k + 1) = r) (hp : pickTo all (ptAt pts) f set a (k + 1) = p) :
    Kept gs g10 g11 w ((W.setCell ⟨g10, 0, none⟩ (.int .i64 r)).setCell ⟨g11, 0, none⟩ (.int .i64 p)) ∧ IB gs g5 g8 g9 g10 g11 A B c d all pts f set a (k + 1) ((W.setCell ⟨g10, 0, none⟩ (.int .i64 r)).setCell ⟨g11, 0, none⟩ (.int .i64 p)) := by
  obtain ⟨⟨a51, a52, a53⟩, ⟨a81, a82, a83⟩, ⟨a91, a92, a93⟩, a10, a11, a12⟩ := hap
  have hK : Kept gs g10 g11 w ((W.setCell ⟨g10, 0, none⟩ (.int .i64 r)).setCell ⟨g11, 0, none⟩ (.int .i64 p)) := ((Kept.weak2 hk).set (p := ⟨g10, 0, none⟩) (.inr (.inl rfl)) _).set (p := ⟨g11, 0, none⟩) (.inr (.inr rfl)) _
  obtain ⟨cs, h1, h2⟩ := hs.blk
  have b10 := (hk.blk h.b10 ⟨a10, a10, a10⟩).set_ 0 (.int .i64 r)
  have b11 := ((hk.blk h.b11 ⟨a11, a11, a11⟩).far (p := ⟨g10, 0, none⟩) (fun x => a12 x.symm) (.int .i64 r)).set_ 0 (.int .i64 p)
  refine ⟨hK, ⟨cs, (h1.far (p := ⟨g10, 0, none⟩) (fun x => a10 x.symm) _).far (p := ⟨g11, 0, none⟩) (fun x => a11 x.symm) _, h2⟩, hK.rep h.ra, hK.rep h.rp, hK.blk h.b5 ⟨a51, a52, a53⟩, hK.blk h.b8 ⟨a81, a82, a83⟩, hK.blk h.b9 ⟨a91, a92, a93⟩, ?_, ?_⟩
  · rw [hr]; exact b10.far (p := ⟨g11, 0, none⟩) a12 _
  · rw [hp]; exact b11
/-- behind a contour that is no better. -/
theorem IB.leave (h : IB gs g5 g8 g9 g10 g11 A B c d all pts f set a k w) (hap : Apart6 gs g5 g8 g9 g10 g11) (hs : SS gs gs A B c d all pts W) (hk : Kept gs gs gs w W) (hr : restTo all (ptAt pts) f set a (k + 1) = restTo all (ptAt pts) f set a k) (hp : pickTo all (ptAt pts) f set a (k + 1) = pickTo all (ptAt pts) f set a k) :
    Kept gs g10 g11 w W ∧ IB gs g5 g8 g9 g10 g11 A B c d all pts f set a (k + 1) W := by
  obtain ⟨⟨a51, a52, a53⟩, ⟨a81, a82, a83⟩, ⟨a91, a92, a93⟩, a10, a11, a12⟩ := hap
  have hK : Kept gs g10 g11 w W := Kept.weak2 hk
  exact ⟨hK, hs.blk, hK.rep h.ra, hK.rep h.rp, hK.blk h.b5 ⟨a51, a52, a53⟩, hK.blk h.b8 ⟨a81, a82, a83⟩, hK.blk h.b9 ⟨a91, a92, a93⟩, by rw [hr]; exact hk.blk h.b10 ⟨a10, a10, a10⟩, by rw [hp]; exact hk.blk h.b11 ⟨a11, a11, a11⟩⟩
end
set_option maxRecDepth 100000 in
set_option maxHeartbeats 2000000 in
theorem bestClos_any (gs g5 g8 g9 g10 g11 : Nat) (A B : Option Addr) (c d : Nat) (all pts : List Pt) (f set : Nat) (px py : Int) (k : Nat) (hF : Fine all pts) (hap : Apart6 gs g5 g8 g9 g10 g11) (hset : set < 512) (hna : Near (px, py)) (hk : k < all.length)
    (hm : mayS all set k = true) (hf9 : f ≤ 9) (hcard : cardS all.length (addS set k) + f = all.length)
    (w : World) (hI : IB gs g5 g8 g9 g10 g11 A B c d all pts f set (px, py) k w) :
    Calls Try.prog 40 #[.int .i64 k, .pointer (some ⟨g8, 0, none⟩), .pointer (some ⟨g5, 0, none⟩), .pointer (some ⟨g9, 0, none⟩), .pointer (some ⟨g10, 0, none⟩), .pointer (some ⟨g11, 0, none⟩)] w (NextPost gs g10 g11 (IB gs g5 g8 g9 g10 g11 A B c d all pts f set (px, py) (k + 1)) w) := by
  have h9 := hF.n9
  have hpl := hF.len
  obtain ⟨cs, hgs, hmemo⟩ := hI.blk
  have s1 := hgs.cell 1
  rw [hmemo.c1] at s1
  have k5 := hI.b5.c0
  have k8 : w.cell? ⟨g8, 0, none⟩ = some (.int .i64 px) := by rw [hI.b8.cell 0]; rfl
  have k81 : w.cell? ⟨g8, 1, none⟩ = some (.int .i64 py) := by rw [hI.b8.cell 1]; rfl
  have k9 := hI.b9.c0
  obtain ⟨b2, off2, qx, qy, rfl, hy, hbD, d0, d1, -⟩ := pairs_at hI.ss.rp (k := k) (by omega)
  have HQ : Hid (ptAt pts k = (qx, qy)) := getD_at hy.out
  have HNP : Hid (Near (px, py)) := hna
  have HNQ : Hid (Near (qx, qy)) := by show Near _; rw [← HQ.out]; exact hF.at_ hk
  have hmv := move_bd HNP.out HNQ.out
  have hrb := restF_bd (all := all) (P := ptAt pts) (fun j hj => hF.at_ hj) f (addS set k) (ptAt pts k) (hF.at_ hk)
  have hor := or_at (s := set) (k := k) hset (by omega)
  have had := add_lt (s := set) (k := k) hset (by omega)
  have HAP := Lib.hid hap
  obtain ⟨⟨a51, a52, a53⟩, ⟨a81, a82, a83⟩, ⟨a91, a92, a93⟩, a10, a11, a12⟩ := id hap
  have hbg : b2 ≠ gs := hbD.2.1
  have HCS : Hid (∀ W, SS gs gs A (some ⟨b2, off2, none⟩) c d all pts W → Kept gs gs gs w W → SS gs gs A (some ⟨b2, off2, none⟩) c d all pts W ∧ Kept gs gs gs w W ∧ W.cell? ⟨g5, 0, none⟩ = some (.pointer (some ⟨gs, 0, none⟩)) ∧ W.cell? ⟨gs, 1, none⟩ = some (.slice (some ⟨b2, off2, none⟩) pts.length d) ∧ W.cell? ⟨g9, 0, none⟩ = some (.int .i64 set) ∧
      W.cell? ⟨g8, 0, none⟩ = some (.int .i64 px) ∧ W.cell? ⟨g8, 1, none⟩ = some (.int .i64 py) ∧ W.cell? ⟨b2, off2 + k * 2, none⟩ = some (.int .i64 qx) ∧ W.cell? ⟨b2, off2 + k * 2 + 1, none⟩ = some (.int .i64 qy)) := by
    intro W h1 h2
    obtain ⟨cs', hb', hm'⟩ := h1.blk
    have e1 := hb'.cell 1
    rw [hm'.c1] at e1
    exact ⟨h1, h2, h2.cell k5 ⟨a51, a51, a51⟩, e1, h2.cell k9 ⟨a91, a91, a91⟩, h2.cell k8 ⟨a81, a81, a81⟩, h2.cell k81 ⟨a81, a81, a81⟩, h2.cell d0 ⟨hbg, hbg, hbg⟩, h2.cell d1 ⟨hbg, hbg, hbg⟩⟩
  have HD1 : Hid (SS gs gs A (some ⟨b2, off2, none⟩) c d all pts w.drew) := SS.below hI.ss ((Below.refl _ _).drew)
  have HD2 : Hid (Kept gs gs gs w w.drew) := Kept.of ((Below.refl _ _).drew)
  have hki : (k : Int) < (pts.length : Int) := by omega
  have HRS : Hid (restTo all (ptAt pts) f set (px, py) (k + 1) = better (restTo all (ptAt pts) f set (px, py) k) (moveF (px, py) (ptAt pts k) + restF all (ptAt pts) f (addS set k) (ptAt pts k))) := by show _ = _; rw [restTo_succ, if_pos hm]
  have HPK : Hid (pickTo all (ptAt pts) f set (px, py) (k + 1) = if restTo all (ptAt pts) f set (px, py) k < 0 ∨ moveF (px, py) (ptAt pts k) + restF all (ptAt pts) f (addS set k) (ptAt pts k) < restTo all (ptAt pts) f set (px, py) k then k else pickTo all (ptAt pts) f set (px, py) k) := by show _ = _; rw [pickTo, if_pos hm]
  have IH := Lib.hid (fun w' hs => least_any gs A (some ⟨b2, off2, none⟩) c d all pts hF f (addS set k) k w' hcard had hk hs)
  obtain ⟨hrb0, hrb1⟩ := hrb
  obtain ⟨hmv0, hmv1⟩ := hmv
  rw [HQ.out] at hrb0 hrb1
  have hII := Lib.hid hI
  rw [HQ.out] at IH HRS HPK
  generalize hr1 : restTo all (ptAt pts) f set (px, py) k = best at *
  generalize hr2 : restF all (ptAt pts) f (addS set k) (qx, qy) = rest at *
  generalize hr3 : moveF (px, py) (qx, qy) = mv at *
  have HM3 := Lib.hid hr3
  have hr1' := Lib.hid hr1
  have hkw : IntKind.i64.wrap ((2 : Int) ^ k) = 2 ^ k := pow_wrap (by omega)
  have hrb2 : rest ≤ 19791209299968 := by omega
  have hsum : IntKind.i64.wrap (mv + rest) = mv + rest := IntWalk.i64_in _ (by omega)
  clear hr1 hr2 hr3 hy hmemo hgs hm hrb1 hcard hap hI
  go_enter Try.func40, Try.ntmps40
  go_wp2
  go_region_held3 (fun W => SS gs gs A (some ⟨b2, off2, none⟩) c d all pts W ∧ Kept gs gs gs w W ∧ W.cell? ⟨g5, 0, none⟩ = some (.pointer (some ⟨gs, 0, none⟩)) ∧ W.cell? ⟨gs, 1, none⟩ = some (.slice (some ⟨b2, off2, none⟩) pts.length d) ∧ W.cell? ⟨g9, 0, none⟩ = some (.int .i64 set) ∧
      W.cell? ⟨g8, 0, none⟩ = some (.int .i64 px) ∧ W.cell? ⟨g8, 1, none⟩ = some (.int .i64 py) ∧ W.cell? ⟨b2, off2 + k * 2, none⟩ = some (.int .i64 qx) ∧ W.cell? ⟨b2, off2 + k * 2 + 1, none⟩ = some (.int .i64 qy))
    (first
      | exact HCS.out _ HD1.out HD2.out
      | exact HCS.out _ hSa.1 hSa.2)
    (first
      | ((go_at_call 35
          go_split_ands
          (with_reducible refine (move_at px py qx qy _ HNP.out HNQ.out).mono ?_)
          rintro en W1 ⟨he, hq⟩
          rw [HM3.out] at he
          subst he
          have hSa : SS gs gs A (some ⟨b2, off2, none⟩) c d all pts W1 ∧ Kept gs gs gs w W1 := ⟨SS.below (by assumption) hq, Kept.trans (by assumption) (Kept.of hq)⟩))
      | ((go_at_call 41
          go_split_ands
          (with_reducible refine (IH.out _ (by assumption)).mono ?_)
          rintro en W1 ⟨rfl, hq, hq2⟩
          have hSa : SS gs gs A (some ⟨b2, off2, none⟩) c d all pts W1 ∧ Kept gs gs gs w W1 := ⟨hq2, Kept.trans (by assumption) hq⟩)))
  all_goals
    have hfin1 := Lib.hid hSa.1
    have hfin2 := Lib.hid hSa.2
    have b10 := hSa.2.blk hII.out.b10 ⟨a10, a10, a10⟩
    have b11 := hSa.2.blk hII.out.b11 ⟨a11, a11, a11⟩
    rw [hr1'.out] at b10
    have j10 := b10.c0
    have j11 := b11.c0
    have f10 := b10.free 0
    have f11 := b11.free 0
    clear hSa
    clear b10 b11
    rcases @pickT best (mv + rest) (pickTo all (ptAt pts) f set (px, py) k) k with ⟨p1, p2, p4⟩ | ⟨p1, p3, p2, p4⟩ | ⟨p1, p3, p2, p4⟩
    all_goals
      have HP2 := Lib.hid p2
      have HP4 := Lib.hid p4
      clear p2 p4
      go_wp2
      go_end0
    · exact ⟨rfl, hII.out.take HAP.out hfin1.out hfin2.out _ _ (HRS.out.trans HP2.out) (HPK.out.trans HP4.out)⟩
    · exact ⟨rfl, hII.out.take HAP.out hfin1.out hfin2.out _ _ (HRS.out.trans HP2.out) (HPK.out.trans HP4.out)⟩
    · exact ⟨rfl, hII.out.leave HAP.out hfin1.out hfin2.out ((HRS.out.trans HP2.out).trans hr1'.out.symm) (HPK.out.trans HP4.out)⟩
end Go.Proofs.Ytpefmbjaolcapaa

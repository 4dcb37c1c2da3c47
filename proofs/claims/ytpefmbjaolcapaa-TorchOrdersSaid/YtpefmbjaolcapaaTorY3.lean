/- Chapter 26: the memory of the search: what it holds; the function that least hands to next, by walking the program's text. -/
import Derived.Test.YtpefmbjaolcapaaTorY2
import Derived.IntWalk
namespace Go.Proofs.Ytpefmbjaolcapaa
open Go Go.RowKit

def ptAt (pts : List Pt) (k : Nat) : Pt := pts.getD k default
/-- the cells of the search's memory. -/
structure MemoIs (all pts : List Pt) (va vp : Value) (cs : Array Value) : Prop where
  c0 : cs[0]? = some va
  c1 : cs[1]? = some vp
  left : ∀ s l, s < 512 → l < 9 → ∃ v, cs[2 + s * 9 + l]? = some (.int .i64 v)
  known : ∀ s l, s < 512 → l < 9 → ∃ b, cs[4610 + s * 9 + l]? = some (.bool b) ∧ (b = true → l < all.length → cs[2 + s * 9 + l]? = some (.int .i64 (restF all (ptAt pts) (all.length - cardS all.length s) s (ptAt pts l))))
structure SS (gs e : Nat) (A B : Option Addr) (c d : Nat) (all pts : List Pt) (w : World) : Prop where
  blk : ∃ cs, Blk w gs 66 cs ∧ MemoIs all pts (.slice A all.length c) (.slice B pts.length d) cs
  ra : prR.slice.R w (Ok3 gs gs e w) all [.slice A all.length c]
  rp : prR.slice.R w (Ok3 gs gs e w) pts [.slice B pts.length d]
structure Fine (all pts : List Pt) : Prop where
  nd : all.Nodup
  n9 : all.length ≤ 9
  len : pts.length = all.length
  near : ∀ p ∈ pts, Near p
theorem Fine.at_ {all pts : List Pt} (h : Fine all pts) {k : Nat} (hk : k < all.length) : Near (ptAt pts k) := by
  unfold ptAt
  rw [List.getD_eq_getElem?_getD, List.getElem?_eq_getElem (by rw [h.len]; exact hk)]
  exact h.near _ (List.getElem_mem _)
section
variable {gs e : Nat} {A B : Option Addr} {c d : Nat} {all pts : List Pt} {w w' : World}
theorem SS.below (h : SS gs e A B c d all pts w) (hb : Below w.heap.size w w') : SS gs e A B c d all pts w' := by
  obtain ⟨cs, h1, h2⟩ := h.blk
  exact ⟨⟨cs, h1.below hb h1.lt, h2⟩, (Kept.of hb).rep h.ra, (Kept.of hb).rep h.rp⟩
/-- another frame for the same. -/
theorem SS.frame {e' : Nat} (h : SS gs e A B c d all pts w) (he : ∀ i, Ok3 gs gs e w i → i ≠ e') : SS gs e' A B c d all pts w :=
  ⟨h.blk, Rep.mono _ (fun i hi => ⟨hi.1, hi.2.1, hi.2.1, he i hi⟩) h.ra, Rep.mono _ (fun i hi => ⟨hi.1, hi.2.1, hi.2.1, he i hi⟩) h.rp⟩
end
def LeastPost (gs : Nat) (A B : Option Addr) (c d : Nat) (all pts : List Pt) (r : Int) (w : World) (en : Ending) (w' : World) : Prop :=
  en = .returned (.int .i64 r) ∧ Kept gs gs gs w w' ∧ SS gs gs A B c d all pts w'
/-- what the function that least hands to next keeps: behind k contours. -/
structure IL (gs g3 g4 g5 g7 : Nat) (A B : Option Addr) (c d : Nat) (all pts : List Pt) (f set last k : Nat) (w : World) : Prop where
  ss : SS gs g7 A B c d all pts w
  b3 : Blk w g3 60 #[.pointer (some ⟨gs, 0, none⟩)]
  b4 : Blk w g4 3 #[.int .i64 set]
  b5 : Blk w g5 3 #[.int .i64 last]
  b7 : Blk w g7 3 #[.int .i64 (restTo all (ptAt pts) f set (ptAt pts last) k)]
theorem Kept.cell {a b e : Nat} {w w' : World} (h : Kept a b e w w') {p : Addr} {v : Value} (hc : w.cell? p = some v) (hp : p.block ≠ a ∧ p.block ≠ b ∧ p.block ≠ e) : w'.cell? p = some v :=
  (World.cell?_of_block (h.block p.block ⟨lt_of_cell hc, hp⟩)).trans hc
theorem Kept.weak {a e e' : Nat} {w w' : World} (h : Kept a a a w w') : Kept a e e' w w' := ⟨h.os, h.tape, h.output, h.size, fun i hi => h.block i ⟨hi.1, hi.2.1, hi.2.1, hi.2.1⟩⟩
theorem SS.back {gs e : Nat} {A B : Option Addr} {c d : Nat} {all pts : List Pt} {w w' : World} (h : SS gs e A B c d all pts w) (h' : SS gs gs A B c d all pts w') (hk : Kept gs gs gs w w') : SS gs e A B c d all pts w' :=
  ⟨h'.blk, (Kept.weak hk).rep h.ra, (Kept.weak hk).rep h.rp⟩
theorem SS.setOther {gs e : Nat} {A B : Option Addr} {c d : Nat} {all pts : List Pt} {w : World} (h : SS gs e A B c d all pts w) (he : e ≠ gs) (i : Nat) (v : Value) : SS gs e A B c d all pts (w.setCell ⟨e, i, none⟩ v) := by
  obtain ⟨cs, h1, h2⟩ := h.blk
  have hk : Kept gs gs e w (w.setCell ⟨e, i, none⟩ v) := (Kept.refl gs gs e w).set (p := ⟨e, i, none⟩) (.inr (.inr rfl)) v
  exact ⟨⟨cs, h1.far (p := ⟨e, i, none⟩) (fun x => he x.symm) v, h2⟩, hk.rep h.ra, hk.rep h.rp⟩
theorem pickS {best n : Int} : (best < 0 ∧ better best n = n) ∨ (¬ best < 0 ∧ n < best ∧ better best n = n) ∨ (¬ best < 0 ∧ ¬ n < best ∧ better best n = best) := by
  unfold better
  by_cases h1 : best < 0
  · exact .inl ⟨h1, if_pos h1⟩
  · by_cases h2 : n < best
    · exact .inr (.inl ⟨h1, h2, by rw [if_neg h1, if_pos h2]⟩)
    · exact .inr (.inr ⟨h1, h2, by rw [if_neg h1, if_neg h2]⟩)
theorem pow_all : ∀ k : Fin 9, IntKind.i64.wrap ((2 : Int) ^ (k : Nat)) = 2 ^ (k : Nat) := by decide +kernel
theorem pow_wrap {k : Nat} (h : k < 9) : IntKind.i64.wrap ((2 : Int) ^ k) = 2 ^ k := pow_all ⟨k, h⟩
def Apart4 (gs g3 g4 g5 g7 : Nat) : Prop := (g3 ≠ gs ∧ g3 ≠ g7) ∧ (g4 ≠ gs ∧ g4 ≠ g7) ∧ (g5 ≠ gs ∧ g5 ≠ g7) ∧ g7 ≠ gs
set_option maxRecDepth 100000 in
set_option maxHeartbeats 2000000 in
theorem leastClos_any (gs g3 g4 g5 g7 : Nat) (A B : Option Addr) (c d : Nat) (all pts : List Pt) (f set last k : Nat) (hF : Fine all pts) (hap : Apart4 gs g3 g4 g5 g7) (hset : set < 512) (hl : last < all.length) (hk : k < all.length)
    (hm : mayS all set k = true) (hf9 : f ≤ 9)
    (ih : ∀ w, SS gs gs A B c d all pts w → Calls Try.prog 41 #[.pointer (some ⟨gs, 0, none⟩), .int .i64 (addS set k : Nat), .int .i64 k] w (LeastPost gs A B c d all pts (restF all (ptAt pts) f (addS set k) (ptAt pts k)) w))
    (w : World) (hI : IL gs g3 g4 g5 g7 A B c d all pts f set last k w) :
    Calls Try.prog 49 #[.int .i64 k, .pointer (some ⟨g3, 0, none⟩), .pointer (some ⟨g5, 0, none⟩), .pointer (some ⟨g4, 0, none⟩), .pointer (some ⟨g7, 0, none⟩)] w (NextPost gs gs g7 (IL gs g3 g4 g5 g7 A B c d all pts f set last (k + 1)) w) := by
  have IH := Lib.hid ih
  clear ih
  have h9 := hF.n9
  have hpl := hF.len
  obtain ⟨cs, hgs, hmemo⟩ := hI.ss.blk
  have s1 := hgs.cell 1
  rw [hmemo.c1] at s1
  have k3 := hI.b3.c0
  have k4 := hI.b4.c0
  have k5 := hI.b5.c0
  have k7 := hI.b7.c0
  obtain ⟨b, off, px, py, rfl, hx, hbD, c0, c1, -⟩ := pairs_at hI.ss.rp (k := last) (by omega)
  obtain ⟨b2, off2, qx, qy, e0, hy, hbD2, d0, d1, -⟩ := pairs_at hI.ss.rp (k := k) (by omega)
  injection e0 with e0
  injection e0 with e1 e2 _
  subst e1 e2
  have HP : Hid (ptAt pts last = (px, py)) := getD_at hx.out
  have HQ : Hid (ptAt pts k = (qx, qy)) := getD_at hy.out
  have HNP : Hid (Near (px, py)) := by show Near _; rw [← HP.out]; exact hF.at_ hl
  have HNQ : Hid (Near (qx, qy)) := by show Near _; rw [← HQ.out]; exact hF.at_ hk
  have hmv := move_bd HNP.out HNQ.out
  have hrb := restF_bd (all := all) (P := ptAt pts) (fun j hj => hF.at_ hj) f (addS set k) (ptAt pts k) (hF.at_ hk)
  have hor := or_at (s := set) (k := k) hset (by omega)
  obtain ⟨⟨a31, a32⟩, ⟨a41, a42⟩, ⟨a51, a52⟩, a7⟩ := id hap
  have hbg : b ≠ gs := hbD.2.1
  have ss0 : SS gs gs A (some ⟨b, off, none⟩) c d all pts w := hI.ss.frame (fun i hi => hi.2.1)
  have HCS : Hid (∀ W, SS gs gs A (some ⟨b, off, none⟩) c d all pts W → Kept gs gs gs w W → SS gs gs A (some ⟨b, off, none⟩) c d all pts W ∧ Kept gs gs gs w W ∧ W.cell? ⟨g3, 0, none⟩ = some (.pointer (some ⟨gs, 0, none⟩)) ∧ W.cell? ⟨gs, 1, none⟩ = some (.slice (some ⟨b, off, none⟩) pts.length d) ∧ W.cell? ⟨g5, 0, none⟩ = some (.int .i64 last) ∧ W.cell? ⟨g4, 0, none⟩ = some (.int .i64 set) ∧
      W.cell? ⟨b, off + last * 2, none⟩ = some (.int .i64 px) ∧ W.cell? ⟨b, off + last * 2 + 1, none⟩ = some (.int .i64 py) ∧ W.cell? ⟨b, off + k * 2, none⟩ = some (.int .i64 qx) ∧ W.cell? ⟨b, off + k * 2 + 1, none⟩ = some (.int .i64 qy)) := by
    intro W h1 h2
    obtain ⟨cs', hb', hm'⟩ := h1.blk
    have e1 := hb'.cell 1
    rw [hm'.c1] at e1
    exact ⟨h1, h2, h2.cell k3 ⟨a31, a31, a31⟩, e1, h2.cell k5 ⟨a51, a51, a51⟩, h2.cell k4 ⟨a41, a41, a41⟩, h2.cell c0 ⟨hbg, hbg, hbg⟩, h2.cell c1 ⟨hbg, hbg, hbg⟩, h2.cell d0 ⟨hbg, hbg, hbg⟩, h2.cell d1 ⟨hbg, hbg, hbg⟩⟩
  have HD1 : Hid (SS gs gs A (some ⟨b, off, none⟩) c d all pts w.drew) := ss0.below ((Below.refl _ _).drew)
  have HD2 : Hid (Kept gs gs gs w w.drew) := Kept.of ((Below.refl _ _).drew)
  have hli : (last : Int) < (pts.length : Int) := by omega
  have hki : (k : Int) < (pts.length : Int) := by omega
  have HRS : Hid (restTo all (ptAt pts) f set (ptAt pts last) (k + 1) = better (restTo all (ptAt pts) f set (ptAt pts last) k) (moveF (ptAt pts last) (ptAt pts k) + restF all (ptAt pts) f (addS set k) (ptAt pts k))) := by show _ = _; rw [restTo_succ, if_pos hm]
  have hrt := restTo_bd (all := all) (P := ptAt pts) (fun j hj => hF.at_ hj) f set (ptAt pts last) (hF.at_ hl) k (by omega)
  obtain ⟨hrt0, hrt1⟩ := hrt
  obtain ⟨hrb0, hrb1⟩ := hrb
  obtain ⟨hmv0, hmv1⟩ := hmv
  rw [HP.out, HQ.out] at HRS
  rw [HP.out] at hrt0 hrt1 k7
  rw [HQ.out] at hrb0 hrb1
  have hII := Lib.hid hI
  rw [HQ.out] at IH
  generalize hr1 : restTo all (ptAt pts) f set (px, py) k = best at *
  generalize hr2 : restF all (ptAt pts) f (addS set k) (qx, qy) = rest at *
  generalize hr3 : moveF (px, py) (qx, qy) = mv at *
  have HM3 := Lib.hid hr3
  have hr1' := Lib.hid hr1
  have hkw : IntKind.i64.wrap ((2 : Int) ^ k) = 2 ^ k := pow_wrap (by omega)
  have hrb2 : rest ≤ 19791209299968 := by omega
  have hsum : IntKind.i64.wrap (mv + rest) = mv + rest := IntWalk.i64_in _ (by omega)
  clear hr1 hr2 hr3 hx hy hmemo hgs ss0 hm hrb1 hrt1
  go_enter Try.func49, Try.ntmps49
  go_wp2
  go_region_held3 (fun W => SS gs gs A (some ⟨b, off, none⟩) c d all pts W ∧ Kept gs gs gs w W ∧ W.cell? ⟨g3, 0, none⟩ = some (.pointer (some ⟨gs, 0, none⟩)) ∧ W.cell? ⟨gs, 1, none⟩ = some (.slice (some ⟨b, off, none⟩) pts.length d) ∧ W.cell? ⟨g5, 0, none⟩ = some (.int .i64 last) ∧ W.cell? ⟨g4, 0, none⟩ = some (.int .i64 set) ∧
      W.cell? ⟨b, off + last * 2, none⟩ = some (.int .i64 px) ∧ W.cell? ⟨b, off + last * 2 + 1, none⟩ = some (.int .i64 py) ∧ W.cell? ⟨b, off + k * 2, none⟩ = some (.int .i64 qx) ∧ W.cell? ⟨b, off + k * 2 + 1, none⟩ = some (.int .i64 qy))
    (first
      | exact HCS.out _ HD1.out HD2.out
      | exact HCS.out _ hSa.1 hSa.2)
    (first
      | ((go_at_call 35
          go_split_ands
          (with_reducible refine (move_at px py qx qy _ HNP.out HNQ.out).mono ?_)
          rintro en W1 ⟨he, hq⟩
          rw [HM3.out] at he
          subst he
          have hSa : SS gs gs A (some ⟨b, off, none⟩) c d all pts W1 ∧ Kept gs gs gs w W1 := ⟨SS.below (by assumption) hq, Kept.trans (by assumption) (Kept.of hq)⟩))
      | ((go_at_call 41
          go_split_ands
          (with_reducible refine (IH.out _ (by assumption)).mono ?_)
          rintro en W1 ⟨rfl, hq, hq2⟩
          have hSa : SS gs gs A (some ⟨b, off, none⟩) c d all pts W1 ∧ Kept gs gs gs w W1 := ⟨hq2, Kept.trans (by assumption) hq⟩)))
  all_goals
    have hfin1 := hSa.1
    have hfin2 := hSa.2
    have b7 := hfin2.blk hII.out.b7 ⟨a7, a7, a7⟩
    have b3' := hfin2.blk hII.out.b3 ⟨a31, a31, a31⟩
    have b4' := hfin2.blk hII.out.b4 ⟨a41, a41, a41⟩
    have b5' := hfin2.blk hII.out.b5 ⟨a51, a51, a51⟩
    have ssB := hII.out.ss.back hfin1 hfin2
    rw [HP.out, hr1'.out] at b7
    have j7 := b7.c0
    have f7 := b7.free 0
    have HK := Lib.hid hfin2
    clear hSa
    rcases @pickS best (mv + rest) with ⟨p1, p2⟩ | ⟨p1, p3, p2⟩ | ⟨p1, p3, p2⟩
    all_goals
      have HP2 := Lib.hid p2
      clear p2
      go_wp2
      go_end0
    · exact ⟨rfl, (Kept.weak HK.out).set (p := ⟨g7, 0, none⟩) (.inr (.inr rfl)) _, ssB.setOther a7 0 _, b3'.far (p := ⟨g7, 0, none⟩) a32 _, b4'.far (p := ⟨g7, 0, none⟩) a42 _, b5'.far (p := ⟨g7, 0, none⟩) a52 _, by rw [HP.out, HRS.out, HP2.out]; exact b7.set_ 0 _⟩
    · exact ⟨rfl, (Kept.weak HK.out).set (p := ⟨g7, 0, none⟩) (.inr (.inr rfl)) _, ssB.setOther a7 0 _, b3'.far (p := ⟨g7, 0, none⟩) a32 _, b4'.far (p := ⟨g7, 0, none⟩) a42 _, b5'.far (p := ⟨g7, 0, none⟩) a52 _, by rw [HP.out, HRS.out, HP2.out]; exact b7.set_ 0 _⟩
    · exact ⟨rfl, Kept.weak HK.out, ssB, b3', b4', b5', by rw [HP.out, HRS.out, HP2.out]; exact b7⟩
end Go.Proofs.Ytpefmbjaolcapaa

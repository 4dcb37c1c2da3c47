/- Certificates: under at any prefix; Make of certify, and of the reference where the shop is wrong, by walking their text. -/
import Derived.Test.YtcnkocnajamclaaCtWB
import Derived.Test.YtcnkocnajamclaaFlW6
import Derived.Test.YtcnkocnajamclaaPnW8
namespace Go.Proofs.Ytcnkocnajamclaa
open Go Go.RowKit
set_option linter.unusedSimpArgs false

theorem under_any (base M : Nat) (A : Option Addr) (c : Nat) (p : Shop) (span : Int) (hok : shopF p = 0) : ∀ (k : Nat) (pre : List Int), pre.length + k = p.length → Seq p.length pre → UnAt base M A c p span k pre
  | 0, pre, hk, hq => by
    intro B d steps vl cs w hm hp _ _ hl
    rw [facF] at hl
    have h := under_cut base M A c p span pre 0 hok hq (by omega) (.inl ⟨by omega, rfl⟩) B d steps vl cs w hm hp hl
    rw [stepsF, cutsF, Int.sub_zero]
    exact h
  | k + 1, pre, hk, hq => by
    intro B d steps vl cs w hm hp hb hs hl
    cases hst : statF p span pre with
    | some s =>
      have hf := facF_pos (k + 1)
      have hmem := List.mem_of_find?_eq_some hst
      have h8 : nStat p ≤ 8 := by
        have := (shop_ok hok).row p[0] (List.getElem_mem (by omega))
        omega
      have h := under_cut base M A c p span pre s hok hq (by have := List.mem_range.1 hmem; omega) (.inr ⟨by omega, hst⟩) B d steps vl cs w hm hp (by omega)
      rw [stepsF, cutsF, hst]
      dsimp only
      rw [Int.sub_zero]
      exact h
    | none =>
      have h := under_node base M A c p span k pre hok hq (by omega) hst (fun j hj => by
        have hj' := mem_left.1 hj
        exact under_any base M A c p span hok k (pre ++ [j]) (by simp; omega) (hq.snoc hj'.1 hj'.2)) B d steps vl cs w hm hp hb hs hl
      rw [stepsF, cutsF, hst]
      exact h
def spanB (p : Shop) : Int := (bestB p 10000).1.span
def certL (p : Shop) : List Ct := cutsF p (spanB p) p.length []
def MakePost (p : Shop) (w : World) (e : Ending) (w' : World) : Prop :=
  ∃ v vl, e = .returned (.tuple #[v, vl, .int .i64 (shopF p)]) ∧ Below w.heap.size w w' ∧ (shopF p ≠ 0 → v = .slice none 0 0 ∧ vl = .slice none 0 0) ∧ (shopF p = 0 → Rep.int.slice.R w' (Lt w') (bestB p 10000).1.order [v] ∧ cutsR.R w' (Lt w') (certL p) [vl])
theorem MakePost.bad {p : Shop} {w w' : World} {n : Int} (h : shopF p = n) (hn : n ≠ 0) (hb : Below w.heap.size w w') : MakePost p w (.returned (.tuple #[.slice none 0 0, .slice none 0 0, .int .i64 n])) w' := by
  subst h
  exact ⟨_, _, rfl, hb, fun _ => ⟨rfl, rfl⟩, fun h0 => absurd h0 hn⟩
theorem MakePost.good {p : Shop} {w w' : World} {v vl : Value} (h : shopF p = 0) (hb : Below w.heap.size w w') (h1 : Rep.int.slice.R w' (Lt w') (bestB p 10000).1.order [v]) (h2 : cutsR.R w' (Lt w') (certL p) [vl]) : MakePost p w (.returned (.tuple #[v, vl, .int .i64 0])) w' :=
  ⟨v, vl, by rw [h], hb, fun h0 => absurd h h0, fun _ => ⟨h1, h2⟩⟩
set_option maxRecDepth 100000 in
set_option maxHeartbeats 4000000 in
theorem ctMake_any (A : Option Addr) (c : Nat) (p : Shop) (w : World) (hp : rowsR.R w (Lt w) p [.slice A p.length c]) (h6 : p.length ≤ 6) :
    Calls Try.prog 19 #[.slice A p.length c, .int .i64 10000] w (MakePost p w) := by
  have CB := Lib.hid (flBest_any A p.length c p 10000 w hp (by decide) h6)
  have HP := Lib.hid hp
  have H6 := Lib.hid h6
  obtain ⟨n, hn⟩ : ∃ n, shopF p = n := ⟨_, rfl⟩
  have HN := Lib.hid hn
  by_cases h0 : n = 0
  · subst h0
    have hbr : bestR p 10000 = ((bestB p 10000).1.order, spanB p, 0) := by unfold bestR spanB; rw [if_neg (by rw [hn]; decide)]
    obtain ⟨span, hspan⟩ : ∃ span, spanB p = span := ⟨_, rfl⟩
    rw [hbr, hspan] at CB
    have HS := Lib.hid hspan
    clear hp hn hbr hspan h6
    go_enter Try.func19, Try.ntmps19
    go_wp2_with fail
    refine CB.out.mono ?_
    rintro e w1 ⟨v, rfl, hv, hb1⟩
    dsimp only at hv ⊢
    have HB1 := Lib.hid hb1
    have HV := Lib.hid hv
    have hbn : Below w1.heap.size w1 (w1.alloc (.cells (mkA A p.length c span 10000 (.slice none 0 0)) 97)) := (Below.refl _ _).alloc (Nat.le_refl _) _
    have hblk : Blk (w1.alloc (.cells (mkA A p.length c span 10000 (.slice none 0 0)) 97)) w1.heap.size 97 (mkA A p.length c span 10000 (.slice none 0 0)) := Blk.new _ _ _
    have hmk : MkAt w1.heap.size w1.heap.size A c p span 10000 (.slice none 0 0) [] (w1.alloc (.cells (mkA A p.length c span 10000 (.slice none 0 0)) 97)) :=
      ⟨hblk, cutsAt_nil _ _, Rep.at_ (Rep.below HP.out hb1) hbn, Nat.le_refl _⟩
    have CU := Lib.hid (under_any w1.heap.size w1.heap.size A c p span HN.out p.length [] (by simp) ⟨List.nodup_nil, fun j hj => by cases hj⟩ none 0 10000 (.slice none 0 0) [] _ hmk (Rep.slice_nil _ _ _)
      (by have : ∀ k : Nat, k ≤ 6 → cntB k ≤ 10000 := by decide
          exact this _ H6.out) (by decide) (by have := fac6 _ H6.out; simp; omega))
    have HBN := Lib.hid hbn
    clear hv hb1 hbn hblk hmk CB
    go_wp2_with fail
    refine CU.out.mono ?_
    rintro e w2 ⟨rfl, hk2, vl, hm2⟩
    obtain ⟨L, lc, hvl⟩ := hm2.cuts.form
    have hb2 : Below w1.heap.size w1 w2 := hk2.below HBN.out (Nat.le_refl _) (Nat.le_refl _) (by simp)
    have HM2 := Lib.hid hm2
    have HB2 := Lib.hid hb2
    have t3 : w2.cell? ⟨w1.heap.size, 3, none⟩ = some vl := hm2.blk.cell 3
    rw [hvl] at t3
    have HVL := Lib.hid hvl
    clear hk2 hm2 hb2 hvl
    go_wp2
    go_region
    go_wp2
    go_ret3
    refine MakePost.good HN.out ((bstep HB1.out HB1.out.size HB2.out).drew) (Rep.below HV.out HB2.out.drew) ?_
    have h := HM2.out.cuts.rep
    rw [HVL.out, List.nil_append] at h
    unfold certL
    rw [HS.out]
    exact Rep.below h ((Below.refl _ _).drew)
  · have hbr : bestR p 10000 = ([], 0, n) := by unfold bestR; rw [hn, if_pos h0]
    rw [hbr] at CB
    have z : (n != 0) = true := ine_t h0
    have H0 := Lib.hid h0
    clear hp hn hbr h6 h0
    go_enter Try.func19, Try.ntmps19
    go_wp2_with fail
    refine CB.out.mono ?_
    rintro e w1 ⟨v, rfl, hv, hb1⟩
    obtain ⟨O, co, rfl, -, -⟩ := slice_inv hv
    have HB1 := Lib.hid hb1
    clear hv hb1
    go_wp2
    go_ret3
    exact MakePost.bad HN.out H0.out HB1.out
/-- Make of the reference at a shop that is wrong. -/
theorem rfMake_bad (A : Option Addr) (n c : Nat) (p : List (List Int)) (steps : Int) (w : World) (hp : rowsR.R w (Lt w) p [.slice A n c]) (hs : shopF p ≠ 0) :
    Calls Try.prog 20 #[.slice A n c, .int .i64 steps] w fun e w' => e = .returned (.tuple #[.slice none 0 0, .slice none 0 0, .int .i64 (shopF p)]) ∧ Qt w w' := by
  have C := rfBest_bad A n c p steps w hp hs
  obtain ⟨r, hr⟩ : ∃ r, r = shopF p := ⟨_, rfl⟩
  rw [← hr] at C hs ⊢
  have z : (r != 0) = true := ine_t hs
  clear hr hs hp
  go_enter Try.func20, Try.ntmps20
  go_wp2_with fail
  refine C.mono ?_
  rintro e w1 ⟨rfl, hq⟩
  go_wp2
  go_ret3
  exact ⟨rfl, hq⟩
end Go.Proofs.Ytcnkocnajamclaa

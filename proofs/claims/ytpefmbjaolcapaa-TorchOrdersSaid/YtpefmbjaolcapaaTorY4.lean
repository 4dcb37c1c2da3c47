/- Chapter 26: least, by walking the program's text. -/
import Derived.Test.YtpefmbjaolcapaaTorY3
namespace Go.Proofs.Ytpefmbjaolcapaa
open Go Go.RowKit

theorem full_in {n s : Nat} (h : cardS n s = n) {k : Nat} (hk : k < n) : inS s k = true := by
  rcases Bool.eq_false_or_eq_true (inS s k) with h1 | h1
  · exact h1
  · have := card_lt hk h1; omega
theorem restTo_full {all : List Pt} {P : Nat → Pt} {f s : Nat} {a : Pt} (h : cardS all.length s = all.length) : ∀ k, k ≤ all.length → restTo all P f s a k = -1
  | 0, _ => rfl
  | k + 1, hk => by
    rw [restTo_succ, if_neg, restTo_full h k (by omega)]
    unfold mayS; rw [full_in h (by omega)]; simp
theorem rest_pred {all : List Pt} {P : Nat → Pt} {f s : Nat} {a : Pt} (h : cardS all.length s + f = all.length) : restF all P f s a = max (restTo all P (f - 1) s a all.length) 0 := by
  cases f with
  | zero => rw [restTo_full (by omega) _ (Nat.le_refl _), restF]; rfl
  | succ f => rfl
theorem cell_idx {i j l m : Nat} (hl : l < 9) (hm : m < 9) (h : i * 9 + l = j * 9 + m) : i = j ∧ l = m := by omega
theorem memo_set {all pts : List Pt} {va vp : Value} {cs : Array Value} {s l : Nat} {r : Int} (h : MemoIs all pts va vp cs) (hs : s < 512) (hl : l < 9) (hr : r = restF all (ptAt pts) (all.length - cardS all.length s) s (ptAt pts l)) :
    MemoIs all pts va vp ((cs.setIfInBounds (4610 + s * 9 + l) (.bool true)).setIfInBounds (2 + s * 9 + l) (.int .i64 r)) := by
  have z1 : 2 + s * 9 + l < cs.size := by obtain ⟨v, hv⟩ := h.left s l hs hl; exact (Array.getElem?_eq_some_iff.1 hv).1
  have z2 : 4610 + s * 9 + l < cs.size := by obtain ⟨v, hv, _⟩ := h.known s l hs hl; exact (Array.getElem?_eq_some_iff.1 hv).1
  have hg : ∀ i, i ≠ 4610 + s * 9 + l → i ≠ 2 + s * 9 + l → ((cs.setIfInBounds (4610 + s * 9 + l) (.bool true)).setIfInBounds (2 + s * 9 + l) (.int .i64 r))[i]? = cs[i]? := by
    intro i h1 h2
    rw [Array.getElem?_setIfInBounds, if_neg (fun e => h2 e.symm), Array.getElem?_setIfInBounds, if_neg (fun e => h1 e.symm)]
  have hL : ((cs.setIfInBounds (4610 + s * 9 + l) (.bool true)).setIfInBounds (2 + s * 9 + l) (.int .i64 r))[2 + s * 9 + l]? = some (.int .i64 r) := by
    rw [Array.getElem?_setIfInBounds, if_pos rfl, if_pos (by simpa using z1)]
  have hK : ((cs.setIfInBounds (4610 + s * 9 + l) (.bool true)).setIfInBounds (2 + s * 9 + l) (.int .i64 r))[4610 + s * 9 + l]? = some (.bool true) := by
    rw [Array.getElem?_setIfInBounds, if_neg (by omega), Array.getElem?_setIfInBounds, if_pos rfl, if_pos z2]
  refine ⟨by rw [hg 0 (by omega) (by omega)]; exact h.c0, by rw [hg 1 (by omega) (by omega)]; exact h.c1, fun s' l' hs' hl' => ?_, fun s' l' hs' hl' => ?_⟩
  · by_cases he : s' = s ∧ l' = l
    · obtain ⟨rfl, rfl⟩ := he; exact ⟨r, hL⟩
    · rw [hg _ (by omega) (fun e => he (cell_idx hl' hl (by omega)))]; exact h.left s' l' hs' hl'
  · by_cases he : s' = s ∧ l' = l
    · obtain ⟨rfl, rfl⟩ := he
      exact ⟨true, hK, fun _ _ => by rw [hL, hr]⟩
    · obtain ⟨b, h1, h2⟩ := h.known s' l' hs' hl'
      refine ⟨b, by rw [hg _ (fun e => he (cell_idx hl' hl (by omega))) (by omega)]; exact h1, fun hb hla => ?_⟩
      rw [hg _ (by omega) (fun e => he (cell_idx hl' hl (by omega)))]; exact h2 hb hla
theorem keeps_of {gs g3 g4 g5 g7 : Nat} {A B : Option Addr} {c d : Nat} {all pts : List Pt} {set last f : Nat} (hF : Fine all pts) (hap : Apart4 gs g3 g4 g5 g7) (hset : set < 512) (hl : last < all.length) (hcard : cardS all.length set + f = all.length)
    (ih : ∀ f', f' + 1 = f → ∀ (k : Nat) (w : World), cardS all.length (addS set k) + f' = all.length → k < all.length → SS gs gs A B c d all pts w →
      Calls Try.prog 41 #[.pointer (some ⟨gs, 0, none⟩), .int .i64 (addS set k : Nat), .int .i64 k] w (LeastPost gs A B c d all pts (restF all (ptAt pts) f' (addS set k) (ptAt pts k)) w)) :
    KeepsL #[.pointer (some ⟨g3, 0, none⟩), .pointer (some ⟨g5, 0, none⟩), .pointer (some ⟨g4, 0, none⟩), .pointer (some ⟨g7, 0, none⟩)] gs A c all set gs gs g7 (IL gs g3 g4 g5 g7 A B c d all pts (f - 1) set last) where
  cell k w h := by
    obtain ⟨cs, h1, h2⟩ := h.ss.blk
    rw [h1.cell 0]; exact h2.c0
  rd k w h := h.ss.ra
  lt k w h := by
    obtain ⟨cs, h1, h2⟩ := h.ss.blk
    exact ⟨h1.lt, h1.lt, h.b7.lt⟩
  below k w w' h hb := ⟨h.ss.below hb, h.b3.below hb h.b3.lt, h.b4.below hb h.b4.lt, h.b5.below hb h.b5.lt, h.b7.below hb h.b7.lt⟩
  no k w hk hm h := ⟨h.ss, h.b3, h.b4, h.b5, by rw [restTo_succ, if_neg (by rw [hm]; decide)]; exact h.b7⟩
  yes k w hk hm h := by
    have hin : inS set k = false := by
      unfold mayS at hm; rw [Bool.and_eq_true] at hm; simpa using hm.1
    have hlt := card_lt hk hin
    have hca := card_add hk hin
    exact leastClos_any gs g3 g4 g5 g7 A B c d all pts (f - 1) set last k hF hap hset hl hk hm (by have := hF.n9; omega) (fun w' hs => ih (f - 1) (by omega) k w' (by omega) hk hs) w h
theorem memo_set' {all pts : List Pt} {va vp : Value} {cs : Array Value} {s l : Nat} {r : Int} (h : MemoIs all pts va vp cs) (hs : s < 512) (hl : l < 9) (hr : r = restF all (ptAt pts) (all.length - cardS all.length s) s (ptAt pts l)) :
    MemoIs all pts va vp ((cs.setIfInBounds (2 + s * 9 + l) (.int .i64 r)).setIfInBounds (4610 + s * 9 + l) (.bool true)) := by
  rw [Array.setIfInBounds_comm _ _ (by omega)]
  exact memo_set h hs hl hr
theorem kept_two {gs g7 : Nat} {w w5 w6 : World} (hg : w.heap.size ≤ g7) (hb5 : Below w.heap.size w w5) (hk6 : Kept gs gs g7 w5 w6) : Kept gs gs gs w w6 :=
  ⟨hk6.os.trans hb5.os, hk6.tape.trans hb5.tape, hk6.output.trans hb5.output, Nat.le_trans hb5.size hk6.size, fun i hi =>
    (hk6.block i ⟨Nat.lt_of_lt_of_le hi.1 hb5.size, hi.2.1, hi.2.1, by have := hi.1; omega⟩).trans (hb5.block i hi.1)⟩
section
variable {gs g7 : Nat} {A B : Option Addr} {c d : Nat} {all pts : List Pt} {w w5 w6 : World} {cs6 : Array Value} {set last : Nat} {r : Int} {n : Nat}
theorem ss_fin {W : World} {cs' : Array Value} (hss : SS gs gs A B c d all pts w) (hk : Kept gs gs gs w W) (hb : Blk W gs 66 cs') (hm : MemoIs all pts (.slice A all.length c) (.slice B pts.length d) cs') : Kept gs gs gs w W ∧ SS gs gs A B c d all pts W :=
  ⟨hk, ⟨⟨cs', hb, hm⟩, hk.rep hss.ra, hk.rep hss.rp⟩⟩
theorem least_fin (hss : SS gs gs A B c d all pts w) (hb5 : Below w.heap.size w w5) (hk6 : Kept gs gs (w.heap.size + 3) w5 w6) (hg : Blk w6 gs 66 cs6) (hm : MemoIs all pts (.slice A all.length c) (.slice B pts.length d) cs6) (hs : set < 512) (hl : last < 9) (hr : r = restF all (ptAt pts) (all.length - cardS all.length set) set (ptAt pts last)) :
    Kept gs gs gs w (((w6.setCell ⟨gs, 4610 + set * 9 + last, none⟩ (.bool true)).setCell ⟨gs, 2 + set * 9 + last, none⟩ (.int .i64 r)).drew.drewN n) ∧ SS gs gs A B c d all pts (((w6.setCell ⟨gs, 4610 + set * 9 + last, none⟩ (.bool true)).setCell ⟨gs, 2 + set * 9 + last, none⟩ (.int .i64 r)).drew.drewN n) :=
  ss_fin hss ((((kept_two (by omega) hb5 hk6).set (p := ⟨gs, 4610 + set * 9 + last, none⟩) (.inl rfl) _).set (p := ⟨gs, 2 + set * 9 + last, none⟩) (.inl rfl) _).trans (Kept.of (below_drewN ((Below.refl _ _).drew) n)))
    (Blk.below ((hg.set_ (4610 + set * 9 + last) (.bool true)).set_ (2 + set * 9 + last) (.int .i64 r)) (below_drewN ((Below.refl _ _).drew) n) ((hg.set_ (4610 + set * 9 + last) (.bool true)).set_ (2 + set * 9 + last) (.int .i64 r)).lt) (memo_set hm hs hl hr)
theorem least_fin' (hss : SS gs gs A B c d all pts w) (hb5 : Below w.heap.size w w5) (hk6 : Kept gs gs (w.heap.size + 3) w5 w6) (hg : Blk w6 gs 66 cs6) (hm : MemoIs all pts (.slice A all.length c) (.slice B pts.length d) cs6) (hs : set < 512) (hl : last < 9) (hr : r = restF all (ptAt pts) (all.length - cardS all.length set) set (ptAt pts last)) :
    Kept gs gs gs w (((w6.setCell ⟨gs, 2 + set * 9 + last, none⟩ (.int .i64 r)).setCell ⟨gs, 4610 + set * 9 + last, none⟩ (.bool true)).drew.drewN n) ∧ SS gs gs A B c d all pts (((w6.setCell ⟨gs, 2 + set * 9 + last, none⟩ (.int .i64 r)).setCell ⟨gs, 4610 + set * 9 + last, none⟩ (.bool true)).drew.drewN n) :=
  ss_fin hss ((((kept_two (by omega) hb5 hk6).set (p := ⟨gs, 2 + set * 9 + last, none⟩) (.inl rfl) _).set (p := ⟨gs, 4610 + set * 9 + last, none⟩) (.inl rfl) _).trans (Kept.of (below_drewN ((Below.refl _ _).drew) n)))
    (Blk.below ((hg.set_ (2 + set * 9 + last) (.int .i64 r)).set_ (4610 + set * 9 + last) (.bool true)) (below_drewN ((Below.refl _ _).drew) n) ((hg.set_ (2 + set * 9 + last) (.int .i64 r)).set_ (4610 + set * 9 + last) (.bool true)).lt) (memo_set' hm hs hl hr)
end
set_option maxRecDepth 100000 in
set_option maxHeartbeats 4000000 in
theorem least_step (gs : Nat) (A B : Option Addr) (c d : Nat) (all pts : List Pt) (hF : Fine all pts) (f : Nat)
    (ih : ∀ f', f' + 1 = f → ∀ (set last : Nat) (w : World), cardS all.length set + f' = all.length → set < 512 → last < all.length → SS gs gs A B c d all pts w →
      Calls Try.prog 41 #[.pointer (some ⟨gs, 0, none⟩), .int .i64 set, .int .i64 last] w (LeastPost gs A B c d all pts (restF all (ptAt pts) f' set (ptAt pts last)) w))
    (set last : Nat) (w : World) (hcard : cardS all.length set + f = all.length) (hset : set < 512) (hl : last < all.length) (hss : SS gs gs A B c d all pts w) :
    Calls Try.prog 41 #[.pointer (some ⟨gs, 0, none⟩), .int .i64 set, .int .i64 last] w (LeastPost gs A B c d all pts (restF all (ptAt pts) f set (ptAt pts last)) w) := by
  have IH := Lib.hid ih
  clear ih
  obtain ⟨cs, hgs, hmemo⟩ := hss.blk
  have h9 := hF.n9
  have hl9 : last < 9 := by omega
  have hfe : all.length - cardS all.length set = f := by omega
  obtain ⟨kb, hkb, hkv⟩ := hmemo.known set last hset hl9
  have q0 := hgs.cell (4610 + set * 9 + last)
  have q1 := hgs.cell (2 + set * 9 + last)
  rw [hkb] at q0
  have hgl := hgs.lt
  have i1 : (set : Int) < 512 := by omega
  have i2 : (last : Int) < 9 := by omega
  have i3 : (0 : Int) ≤ (set : Int) := by omega
  have i4 : (0 : Int) ≤ (last : Int) := by omega
  have hw3 : Below w.heap.size w (((w.alloc (.cells #[.pointer (some ⟨gs, 0, none⟩)] 60)).alloc (.cells #[.int .i64 set] 3)).alloc (.cells #[.int .i64 last] 3)) := (((Below.refl _ _).alloc (Nat.le_refl _) _).alloc (by simp) _).alloc (by simp; omega) _
  have r0 := (hw3.cell (p := ⟨gs, 4610 + set * 9 + last, none⟩) hgl).trans q0
  have HCD := Lib.hid hcard
  have HFE := Lib.hid hfe
  cases kb with
  | true =>
    rw [hkv rfl hl, hfe] at q1
    have r1 := (hw3.cell (p := ⟨gs, 2 + set * 9 + last, none⟩) hgl).trans q1
    generalize hrr : restF all (ptAt pts) f set (ptAt pts last) = r at *
    clear hcard hfe hkb hkv hrr q0 q1
    go_enter Try.func41, Try.ntmps41
    go_wp2
    go_quiet (fail)
    go_wp2
    go_quiet (fail)
    go_wp2
    go_ret
    exact ⟨rfl, Kept.of (below_drewN (below_drewN hw3 _) _), hss.below (below_drewN (below_drewN hw3 _) _)⟩
  | false =>
    have HMM := Lib.hid hmemo
    clear hcard hfe hkb hkv q1
    have b3 := ((Blk.new w 60 #[.pointer (some ⟨gs, 0, none⟩)]).alloc (.cells #[.int .i64 set] 3)).alloc (.cells #[.int .i64 last] 3)
    have b4 := (Blk.new (w.alloc (.cells #[.pointer (some ⟨gs, 0, none⟩)] 60)) 3 #[.int .i64 set]).alloc (.cells #[.int .i64 last] 3)
    have b5 := Blk.new ((w.alloc (.cells #[.pointer (some ⟨gs, 0, none⟩)] 60)).alloc (.cells #[.int .i64 set] 3)) 3 #[.int .i64 last]
    simp only [World.size_alloc] at b4 b5
    obtain ⟨w3, hw3e⟩ : ∃ w3, w3 = (((w.alloc (.cells #[.pointer (some ⟨gs, 0, none⟩)] 60)).alloc (.cells #[.int .i64 set] 3)).alloc (.cells #[.int .i64 last] 3)) := ⟨_, rfl⟩
    rw [← hw3e] at hw3 r0 b3 b4 b5
    have HW3 := Lib.hid hw3e
    have hz3 : w3.heap.size = w.heap.size + 3 := by rw [hw3e]; simp
    clear hw3e q0
    go_enter Try.func41, Try.ntmps41
    go_wp2
    rw [← HW3.out]
    have k3 := b3.c0
    have k4 := b4.c0
    have k5 := b5.c0
    go_quiet (fail)
    generalize hw4 : World.drewN w3 _ = w4
    have hb4 : Below w.heap.size w w4 := by rw [← hw4]; exact below_drewN hw3 _
    have c3 : Blk w4 w.heap.size 60 #[.pointer (some ⟨gs, 0, none⟩)] := by rw [← hw4]; exact b3
    have c4 : Blk w4 (w.heap.size + 1) 3 #[.int .i64 set] := by rw [← hw4]; exact b4
    have c5 : Blk w4 (w.heap.size + 1 + 1) 3 #[.int .i64 last] := by rw [← hw4]; exact b5
    have hz4 : w4.heap.size = w.heap.size + 3 := by rw [← hw4]; exact hz3
    clear hw4 b3 b4 b5 k3 k4 k5 r0 hz3
    have k3 := c3.c0
    have k4 := c4.c0
    have k5 := c5.c0
    go_wp2_with fail
    have hz := hss.below hb4
    have hb5 := hb4.alloc hb4.size (.cells #[.int .i64 (-1)] 3)
    have d3 := c3.alloc (.cells #[.int .i64 (-1)] 3)
    have d4 := c4.alloc (.cells #[.int .i64 (-1)] 3)
    have d5 := c5.alloc (.cells #[.int .i64 (-1)] 3)
    have d7 := Blk.new w4 3 #[.int .i64 (-1)]
    rw [hz4] at d7
    obtain ⟨w5, hw5⟩ : ∃ w5, w5 = w4.alloc (.cells #[.int .i64 (-1)] 3) := ⟨_, rfl⟩
    rw [← hw5]
    rw [← hw5] at hb5 d3 d4 d5 d7
    clear hw5 c3 c4 c5 k3 k4 k5 hz
    have hap : Apart4 gs w.heap.size (w.heap.size + 1) (w.heap.size + 1 + 1) (w.heap.size + 3) := by unfold Apart4; omega
    have hss5 : SS gs (w.heap.size + 3) A B c d all pts w5 := by
      have h5 := hss.below hb5
      refine ⟨h5.blk, ?_, ?_⟩
      · exact Rep.mono _ (fun i (hi : Ok3 gs gs gs w i) => (⟨Nat.lt_of_lt_of_le hi.1 hb5.size, hi.2.1, hi.2.1, by have := hi.1; omega⟩ : Ok3 gs gs (w.heap.size + 3) w5 i)) (Rep.keep _ (fun i hi => hb5.block i hi.1) hss.ra)
      · exact Rep.mono _ (fun i (hi : Ok3 gs gs gs w i) => (⟨Nat.lt_of_lt_of_le hi.1 hb5.size, hi.2.1, hi.2.1, by have := hi.1; omega⟩ : Ok3 gs gs (w.heap.size + 3) w5 i)) (Rep.keep _ (fun i hi => hb5.block i hi.1) hss.rp)
    have hIL : IL gs w.heap.size (w.heap.size + 1) (w.heap.size + 1 + 1) (w.heap.size + 3) A B c d all pts (f - 1) set last 0 w5 := ⟨hss5, d3, d4, d5, d7⟩
    have HAP := Lib.hid hap
    have hK := keeps_of (A := A) (B := B) (c := c) (d := d) hF hap hset hl (f := f) HCD.out (fun f' hf' k w' h1 h2 h3 => IH.out f' hf' (addS set k) k w' h1 (add_lt hset (by omega)) h2 h3)
    refine (nextL_any _ gs A c all set gs gs (w.heap.size + 3) _ hK w5 hIL hF.nd hF.n9 hset).mono ?_
    rintro en w6 ⟨rfl, hk6, hI6⟩
    obtain ⟨cs6, hg6, hm6⟩ := hI6.ss.blk
    have k3 := hI6.b3.c0
    have k4 := hI6.b4.c0
    have k5 := hI6.b5.c0
    have k7 := hI6.b7.c0
    obtain ⟨kb, hkb, -⟩ := hm6.known set last hset hl9
    obtain ⟨lv, hlv⟩ := hm6.left set last hset hl9
    have q0 := hg6.cell (4610 + set * 9 + last)
    have q1 := hg6.cell (2 + set * 9 + last)
    rw [hkb] at q0
    rw [hlv] at q1
    have f0 := hg6.free (4610 + set * 9 + last)
    have f1 := hg6.free (2 + set * 9 + last)
    have HR := Lib.hid (rest_pred (all := all) (P := ptAt pts) (f := f) (s := set) (a := ptAt pts last) HCD.out)
    generalize hbest : restTo all (ptAt pts) (f - 1) set (ptAt pts last) all.length = best at *
    have HBE := Lib.hid hbest
    have hne : ¬ 4610 + set * 9 + last = 2 + set * 9 + last := by omega
    have hne2 : ¬ 2 + set * 9 + last = 4610 + set * 9 + last := by omega
    have a1 : ¬ gs = w.heap.size := by omega
    have a2 : ¬ gs = w.heap.size + 1 := by omega
    have a3 : ¬ gs = w.heap.size + 1 + 1 := by omega
    have a4 : ¬ gs = w.heap.size + 3 := by omega
    have a1' : ¬ w.heap.size = gs := by omega
    have a2' : ¬ w.heap.size + 1 = gs := by omega
    have a3' : ¬ w.heap.size + 1 + 1 = gs := by omega
    have a4' : ¬ w.heap.size + 3 = gs := by omega
    have HI6 := Lib.hid hI6
    have HG6 := Lib.hid hg6
    have HM6 := Lib.hid hm6
    have HK6 := Lib.hid hk6
    clear hI6 hg6 hm6 hk6 hkb hlv hbest hK hIL hss5 d3 d4 d5 d7 hap
    have hcs : (best < 0 ∧ best ≤ 0 ∧ ¬ 0 ≤ best ∧ max best 0 = 0) ∨ (0 ≤ best ∧ ¬ best < 0 ∧ max best 0 = best) := by omega
    rcases hcs with ⟨x1, x2, x3, x4⟩ | ⟨x1, x2, x4⟩
    all_goals
      have HMX := Lib.hid x4
      clear x4
      go_wp2
      go_region_held3 (fun W => W.cell? ⟨w.heap.size, 0, none⟩ = some (.pointer (some ⟨gs, 0, none⟩)) ∧ W.cell? ⟨w.heap.size + 1, 0, none⟩ = some (.int .i64 set) ∧ W.cell? ⟨w.heap.size + 1 + 1, 0, none⟩ = some (.int .i64 last) ∧ W.cell? ⟨w.heap.size + 3, 0, none⟩ = some (.int .i64 best))
        (first
          | exact ⟨k3, k4, k5, k7⟩
          | go_keep)
        (fail)
      all_goals
        go_wp2
        go_quiet (fail)
        go_wp2
        go_ret
        have hrv := HR.out.trans HMX.out
        rw [hrv]
        refine ⟨rfl, ?_⟩
        first
          | with_reducible refine least_fin hss hb5 HK6.out HG6.out HM6.out hset hl9 ?_
          | with_reducible refine least_fin' hss hb5 HK6.out HG6.out HM6.out hset hl9 ?_
        exact (by rw [HFE.out]; exact hrv.symm)
theorem least_any (gs : Nat) (A B : Option Addr) (c d : Nat) (all pts : List Pt) (hF : Fine all pts) : ∀ (f set last : Nat) (w : World), cardS all.length set + f = all.length → set < 512 → last < all.length → SS gs gs A B c d all pts w →
    Calls Try.prog 41 #[.pointer (some ⟨gs, 0, none⟩), .int .i64 set, .int .i64 last] w (LeastPost gs A B c d all pts (restF all (ptAt pts) f set (ptAt pts last)) w)
  | 0, set, last, w, h1, h2, h3, h4 => least_step gs A B c d all pts hF 0 (fun f' hf' => by omega) set last w h1 h2 h3 h4
  | f + 1, set, last, w, h1, h2, h3, h4 => least_step gs A B c d all pts hF (f + 1) (fun f' hf' => by
      have e : f' = f := by omega
      subst e
      exact least_any gs A B c d all pts hF f') set last w h1 h2 h3 h4
end Go.Proofs.Ytpefmbjaolcapaa

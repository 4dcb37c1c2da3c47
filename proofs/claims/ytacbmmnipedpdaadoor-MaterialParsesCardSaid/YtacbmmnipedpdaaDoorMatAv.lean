/- Chapter 15: awake: it returns true. -/
import Derived.Test.YtacbmmnipedpdaaDoorMatAv0
import Derived.Test.YtacbmmnipedpdaaDoorMatPA
import Derived.Test.YtacbmmnipedpdaaDoorMatF1
import Derived.Test.YtacbmmnipedpdaaDoorMatW7
namespace Go.Proofs.YtacbmmnipedpdaaDoor
open Go Go.RowKit

theorem av_grs {w : World} {g h : Nat} {t u : TypeId} (hg : Blk w g t #[.string ⟨#[65]⟩, .int .i64 7850, .int .i64 235, .slice (some ⟨h, 0, none⟩) 3 3]) (hh : Blk w h u #[.int .i64 8, .int .i64 10, .int .i64 12]) : grR.slice.R w (Lt w) avM.1 [.slice (some ⟨g, 0, none⟩) 1 1] :=
  ⟨some ⟨g, 0, none⟩, 1, rfl, Nat.le_refl _, by unfold maxLen; omega, fun k hk => by
    have hk0 : k = 0 := by
      have h : k < 1 := hk
      omega
    subst hk0
    refine ⟨g, 0, [.string (bA [65]), .int .i64 7850, .int .i64 235, .slice (some ⟨h, 0, none⟩) 3 3], rfl, hg.lt, gr_mk (nm := [65]) (Blk.ints (xs := [8, 10, 12]) hh (fun y hy => by simp at hy; rcases hy with rfl | rfl | rfl <;> constructor <;> decide) (c := 3) (by simp) (by omega)) (by decide) (by constructor <;> decide) (by constructor <;> decide), fun j hj => ?_⟩
    have hj : j < 4 := hj
    have hc := hg.cell j
    rw [Nat.zero_mul, Nat.add_zero, Nat.zero_add, hc]
    match j, hj with
    | 0, _ => rfl
    | 1, _ => rfl
    | 2, _ => rfl
    | 3, _ => rfl⟩
theorem av_scs {w : World} {g : Nat} {t : TypeId} (hg : Blk w g t #[.string ⟨#[72, 80, 50, 48, 48]⟩, .int .i64 2500, .int .i64 200, .int .i64 12000]) : scR.slice.R w (Lt w) avM.2 [.slice (some ⟨g, 0, none⟩) 1 1] :=
  Blk.slice_enc (E := scR) (enc := scEnc) (xs := avM.2) (fun _ => rfl) hg rfl (fun q hq => sc_mk (by simp [avM] at hq; subst hq; exact ⟨by decide, by constructor <;> decide, by constructor <;> decide, by constructor <;> decide⟩)) (c := 1) (by show 1 ≤ 1; decide) (by decide)
theorem av_gr2 {w : World} {g : Nat} {t : TypeId} (hg : Blk w g t #[.string ⟨#[65]⟩, .int .i64 7850, .int .i64 235, .slice none 0 0]) : grR.slice.R w (Lt w) [([65], 7850, 235, [])] [.slice (some ⟨g, 0, none⟩) 1 1] :=
  ⟨some ⟨g, 0, none⟩, 1, rfl, Nat.le_refl _, by unfold maxLen; omega, fun k hk => by
    have hk0 : k = 0 := by
      have h : k < 1 := hk
      omega
    subst hk0
    refine ⟨g, 0, [.string (bA [65]), .int .i64 7850, .int .i64 235, .slice none 0 0], rfl, hg.lt, gr_mk (nm := [65]) (Rep.slice_nil _ _ _) (by decide) (by constructor <;> decide) (by constructor <;> decide), fun j hj => ?_⟩
    have hj : j < 4 := hj
    have hc := hg.cell j
    rw [Nat.zero_mul, Nat.add_zero, Nat.zero_add, hc]
    match j, hj with
    | 0, _ => rfl
    | 1, _ => rfl
    | 2, _ => rfl
    | 3, _ => rfl⟩
theorem av_parse_any (l : List UInt8) (r : Mat × Int × Int) (hl : l.length ≤ 200) (hp : parseM l = r) (w : World) : Calls Tryd.prog 24 #[.string ⟨l.toArray⟩] w (ParseP15 r w) := by
  have h := matParse_any ⟨l.toArray⟩ w (by show l.toArray.size ≤ _; simp; omega)
  rw [show (⟨l.toArray⟩ : ByteArray).data.toList = l from by simp, hp] at h
  exact h
structure AvSt (w : World) (g : Nat) (W : World) : Prop where
  hb : Below w.heap.size w W
  hg : grR.slice.R W (Lt W) avM.1 [.slice (some ⟨g + 1, 0, none⟩) 1 1]
  hs : scR.slice.R W (Lt W) avM.2 [.slice (some ⟨g + 1 + 1, 0, none⟩) 1 1]
  bm : Blk W (g + 1 + 1 + 1) 25 #[.slice (some ⟨g + 1, 0, none⟩) 1 1, .slice (some ⟨g + 1 + 1, 0, none⟩) 1 1]
theorem AvSt.below {w W W' : World} {g : Nat} (h : AvSt w g W) (hb : Below W.heap.size W W') : AvSt w g W' :=
  ⟨h.hb.trans (hb.mono h.hb.size), Rep.below h.hg hb, Rep.below h.hs hb, h.bm.below hb h.bm.lt⟩
theorem av_start (w : World) : AvSt w w.heap.size ((((w.alloc (.cells #[.int .i64 8, .int .i64 10, .int .i64 12] 3)).alloc (.cells #[.string ⟨#[65]⟩, .int .i64 7850, .int .i64 235, .slice (some ⟨w.heap.size, 0, none⟩) 3 3] 32)).alloc (.cells #[.string ⟨#[72, 80, 50, 48, 48]⟩, .int .i64 2500, .int .i64 200, .int .i64 12000] 36)).alloc (.cells #[.slice (some ⟨w.heap.size + 1, 0, none⟩) 1 1, .slice (some ⟨w.heap.size + 1 + 1, 0, none⟩) 1 1] 25)) := by
  have b0 := Blk.new w 3 #[.int .i64 8, .int .i64 10, .int .i64 12]
  have b1 := Blk.new (w.alloc (.cells #[.int .i64 8, .int .i64 10, .int .i64 12] 3)) 32 #[.string ⟨#[65]⟩, .int .i64 7850, .int .i64 235, .slice (some ⟨w.heap.size, 0, none⟩) 3 3]
  have b2 := Blk.new ((w.alloc (.cells #[.int .i64 8, .int .i64 10, .int .i64 12] 3)).alloc (.cells #[.string ⟨#[65]⟩, .int .i64 7850, .int .i64 235, .slice (some ⟨w.heap.size, 0, none⟩) 3 3] 32)) 36 #[.string ⟨#[72, 80, 50, 48, 48]⟩, .int .i64 2500, .int .i64 200, .int .i64 12000]
  have b3 := Blk.new (((w.alloc (.cells #[.int .i64 8, .int .i64 10, .int .i64 12] 3)).alloc (.cells #[.string ⟨#[65]⟩, .int .i64 7850, .int .i64 235, .slice (some ⟨w.heap.size, 0, none⟩) 3 3] 32)).alloc (.cells #[.string ⟨#[72, 80, 50, 48, 48]⟩, .int .i64 2500, .int .i64 200, .int .i64 12000] 36)) 25 #[.slice (some ⟨w.heap.size + 1, 0, none⟩) 1 1, .slice (some ⟨w.heap.size + 1 + 1, 0, none⟩) 1 1]
  simp only [World.size_alloc] at b1 b2 b3
  exact ⟨((((Below.refl w.heap.size w).alloc (Nat.le_refl _) _).alloc (by simp) _).alloc (by simp; omega) _).alloc (by simp; omega) _, av_grs ((b1.alloc _).alloc _) (((b0.alloc _).alloc _).alloc _), av_scs (b2.alloc _), b3⟩
structure AvN (gn : Nat) (A B : Option Addr) (c d : Nat) (W : World) : Prop where
  hg : grR.slice.R W (Lt W) avM.1 [.slice A avM.1.length c]
  hs : scR.slice.R W (Lt W) avM.2 [.slice B avM.2.length d]
  bm : Blk W gn 25 #[.slice A avM.1.length c, .slice B avM.2.length d]
theorem AvN.below {W W' : World} {gn : Nat} {A B : Option Addr} {c d : Nat} (h : AvN gn A B c d W) (hb : Below W.heap.size W W') : AvN gn A B c d W' :=
  ⟨Rep.below h.hg hb, Rep.below h.hs hb, h.bm.below hb h.bm.lt⟩
theorem mat_out {w : World} {D : Nat → Prop} {m : Mat} {v u : Value} (h : matR.R w D m [v, u]) : ∃ A c B d, v = .slice A m.1.length c ∧ u = .slice B m.2.length d ∧ grR.slice.R w D m.1 [.slice A m.1.length c] ∧ scR.slice.R w D m.2 [.slice B m.2.length d] := by
  obtain ⟨A, c, B, d, e, h1, h2, -, -⟩ := mat_inv (cs := #[v, u]) h
  injection e with e
  injection e with e1 e2
  injection e2 with e2 _
  exact ⟨A, c, B, d, e1, e2, h1, h2⟩
theorem mat_out0 {w : World} {D : Nat → Prop} {m : Mat} {v u : Value} (h : matR.R w D m [v, u]) : ∃ A n c B k d, v = .slice A n c ∧ u = .slice B k d := by
  obtain ⟨A, c, B, d, e, e2, -, -⟩ := mat_out h
  exact ⟨A, _, c, B, _, d, e, e2⟩
set_option maxRecDepth 100000 in
set_option maxHeartbeats 4000000 in
theorem awake_any (w : World) (hT : TabP w) : Calls Tryd.prog 14 #[] w (Ret (.bool true) w) := by
  have HT := Lib.hid hT
  clear hT
  go_enter Tryd.func14, Tryd.ntmps14
  go_wp2_with fail
  obtain ⟨w0, hw0⟩ : ∃ w0, w0 = ((((w.alloc (.cells #[.int .i64 8, .int .i64 10, .int .i64 12] 3)).alloc (.cells #[.string ⟨#[65]⟩, .int .i64 7850, .int .i64 235, .slice (some ⟨w.heap.size, 0, none⟩) 3 3] 32)).alloc (.cells #[.string ⟨#[72, 80, 50, 48, 48]⟩, .int .i64 2500, .int .i64 200, .int .i64 12000] 36)).alloc (.cells #[.slice (some ⟨w.heap.size + 1, 0, none⟩) 1 1, .slice (some ⟨w.heap.size + 1 + 1, 0, none⟩) 1 1] 25)) := ⟨_, rfl⟩
  have HS : Hid (AvSt w w.heap.size w0) := by rw [hw0]; exact av_start w
  rw [← hw0]
  clear hw0
  have hs := HS.out
  refine (matFormat_any _ _ _ _ _ _ avM w0 (HT.out.below hs.hb) hs.hg hs.hs).mono ?_
  rintro e w1 ⟨rfl, hb1⟩
  rw [av_format]
  replace hs := hs.below hb1
  have HS := Lib.hid hs
  clear hb1 hs
  go_wp2_with fail
  refine (av_parse_any avRem _ (by decide) av_parse w1).mono ?_
  rintro e w2 ⟨vg, vs, rfl, hm, hb2⟩
  obtain ⟨A, c, B, d, rfl, rfl, hng, hns⟩ := mat_out hm
  have HS := Lib.hid (HS.out.below hb2)
  have hby := (Below.refl w2.heap.size w2).alloc (Nat.le_refl _) (.cells #[.slice A avM.1.length c, .slice B avM.2.length d] 25)
  have HN : Hid (AvN w2.heap.size A B c d (w2.alloc (.cells #[.slice A avM.1.length c, .slice B avM.2.length d] 25))) := ⟨Rep.below hng hby, Rep.below hns hby, Blk.new w2 _ _⟩
  have HS := Lib.hid (HS.out.below hby)
  clear hb2 hm hng hns
  go_wp2_with fail
  refine (av_parse_any avB1 _ (by decide) av_bad1 _).mono ?_
  rintro e w3 ⟨va, vb, rfl, hm3, hb3⟩
  obtain ⟨A3, n3, x3, B3, k3, y3, rfl, rfl⟩ := mat_out0 hm3
  have hby := (Below.refl w3.heap.size w3).alloc (Nat.le_refl _) (.cells #[.slice A3 n3 x3, .slice B3 k3 y3] 25)
  have HS := Lib.hid (HS.out.below hb3)
  have HN := Lib.hid (HN.out.below hb3)
  have HS := Lib.hid (HS.out.below hby)
  have HN := Lib.hid (HN.out.below hby)
  clear hb3 hby hm3
  go_wp2_with fail
  refine (av_parse_any avB2 _ (by decide) av_bad2 _).mono ?_
  rintro e w4 ⟨va, vb, rfl, hm4, hb4⟩
  obtain ⟨A4, n4, x4, B4, k4, y4, rfl, rfl⟩ := mat_out0 hm4
  have hby := (Below.refl w4.heap.size w4).alloc (Nat.le_refl _) (.cells #[.slice A4 n4 x4, .slice B4 k4 y4] 25)
  have HS := Lib.hid (HS.out.below hb4)
  have HN := Lib.hid (HN.out.below hb4)
  have HS := Lib.hid (HS.out.below hby)
  have HN := Lib.hid (HN.out.below hby)
  have c0 := HS.out.bm.c20
  have c1 := HS.out.bm.c21
  clear hb4 hby hm4
  go_wp2_with fail
  refine (matSectionOf_any _ _ _ _ _ _ avM [72, 80, 50, 48, 48] _ HS.out.hs).mono ?_
  rintro e w5 ⟨rfl, hb5⟩
  rw [av_sect]
  have HS := Lib.hid (HS.out.below hb5)
  have HN := Lib.hid (HN.out.below hb5)
  have hby := (Below.refl w5.heap.size w5).alloc (Nat.le_refl _) (.cells #[.string ⟨#[72, 80, 50, 48, 48]⟩, .int .i64 2500, .int .i64 200, .int .i64 12000] 36)
  have HS := Lib.hid (HS.out.below hby)
  have HN := Lib.hid (HN.out.below hby)
  have HX := Lib.hid (Blk.new w5 36 #[.string ⟨#[72, 80, 50, 48, 48]⟩, .int .i64 2500, .int .i64 200, .int .i64 12000])
  have c0 := HS.out.bm.c20
  have c1 := HS.out.bm.c21
  clear hb5 hby
  rw [show scC ([72, 80, 50, 48, 48], 2500, 200, 12000) = #[.string ⟨#[72, 80, 50, 48, 48]⟩, .int .i64 2500, .int .i64 200, .int .i64 12000] from rfl]
  go_wp2_with fail
  refine (matCheck_any _ _ _ _ _ _ avM _ HS.out.hg HS.out.hs).mono ?_
  rintro e w6 ⟨rfl, hb6⟩
  rw [av_check]
  have HS := Lib.hid (HS.out.below hb6)
  have HN := Lib.hid (HN.out.below hb6)
  have HX := Lib.hid (HX.out.below hb6 HX.out.lt)
  clear hb6 c0 c1
  go_wp2_with fail
  have hby := (Below.refl w6.heap.size w6).alloc (Nat.le_refl _) (.cells #[.string ⟨#[65]⟩, .int .i64 7850, .int .i64 235, .slice none 0 0] 32)
  refine (matCheck_any _ _ _ _ _ _ ([([65], 7850, 235, [])], []) _ (av_gr2 (Blk.new w6 _ _)) (Rep.slice_nil _ _ _)).mono ?_
  rintro e w7 ⟨rfl, hb7⟩
  rw [av_check2]
  have HS := Lib.hid (HS.out.below hby)
  have HN := Lib.hid (HN.out.below hby)
  have HS := Lib.hid (HS.out.below hb7)
  have HN := Lib.hid (HN.out.below hb7)
  have HX := Lib.hid ((HX.out.below hby HX.out.lt).below hb7 (HX.out.below hby HX.out.lt).lt)
  have c0 := HS.out.bm.c20
  have c1 := HS.out.bm.c21
  have n0 := HN.out.bm.c20
  have n1 := HN.out.bm.c21
  have x2 := HX.out.cell 2
  simp only [List.getElem?_toArray, List.getElem?_cons_succ, List.getElem?_cons_zero] at x2
  clear hb7 hby
  go_wp2_with fail
  · refine (same15_eq _ _ _ _ _ _ _ _ _ _ _ _ avM w7 HN.out.hg HN.out.hs HS.out.hg HS.out.hs).mono ?_
    rintro e w8 ⟨rfl, hb8⟩
    have HS := Lib.hid (HS.out.below hb8)
    have HX := Lib.hid (HX.out.below hb8 HX.out.lt)
    have c0 := HS.out.bm.c20
    have c1 := HS.out.bm.c21
    have x2 := HX.out.cell 2
    simp only [List.getElem?_toArray, List.getElem?_cons_succ, List.getElem?_cons_zero] at x2
    clear hb8 HN n0 n1
    go_wp2_with fail
    refine (matRolled_any _ _ _ _ _ _ avM [65] 10 _ HS.out.hg av_lens).mono ?_
    rintro e w9 ⟨rfl, hb9⟩
    rw [av_roll.1]
    have HS := Lib.hid (HS.out.below hb9)
    have c0 := HS.out.bm.c20
    have c1 := HS.out.bm.c21
    clear hb9 HX x2
    go_wp2_with fail
    refine (matRolled_any _ _ _ _ _ _ avM [65] 9 _ HS.out.hg av_lens).mono ?_
    rintro e w10 ⟨rfl, hb10⟩
    rw [av_roll.2]
    have HS := Lib.hid (HS.out.below hb10)
    go_wp2
    go_ret
    exact ⟨rfl, HS.out.hb⟩
end Go.Proofs.YtacbmmnipedpdaaDoor

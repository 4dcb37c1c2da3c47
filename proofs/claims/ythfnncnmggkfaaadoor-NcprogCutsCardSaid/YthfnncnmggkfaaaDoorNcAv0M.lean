/- Chapter 27: Text, by walking the program's text. -/
/- Chapter 27: the examples of the chapter, in plain Lean. -/
import Derived.Test.YthfnncnmggkfaaaDoorNcOpM
import Derived.Test.YthfnncnmggkfaaaDoorNcParM
import Derived.Test.YthfnncnmggkfaaaDoorNcNum
import Derived.Test.YthfnncnmggkfaaaDoorNcBldM
import Derived.Lib.ItoaLen
import Derived.Deep.RegionHeld3
import Derived.Deep.LoopGhost
import Derived.Deep.DeepCutAuto
import Derived.Test.YthfnncnmggkfaaaDoorNcMkM
namespace Go.Proofs.YthfnncnmggkfaaaDoor
open Go Go.RowKit

def wordB (o : Int) : List UInt8 := if o = 1 then [71, 48] else if o = 2 then [77, 55] else if o = 3 then [71, 49] else [77, 56]
/-- the text of a step. -/
def textS (s : Stp) : List UInt8 :=
  if s.1 = 1 ∨ s.1 = 3 then wordB s.1 ++ [32, 88] ++ Lib.itoa s.2.1 ++ [32, 89] ++ Lib.itoa s.2.2 ++ [59, 10]
  else if s.1 = 2 ∨ s.1 = 4 then wordB s.1 ++ [59, 10] else []
def textF (l : List Stp) : List UInt8 := l.flatMap textS
theorem textF_take {l : List Stp} {k : Nat} {s : Stp} (h : l[k]? = some s) : textF (l.take (k + 1)) = textF (l.take k) ++ textS s := by
  unfold textF; rw [take_one h, List.flatMap_append]; simp
theorem textS_len {s : Stp} (hx : inI64 s.2.1) (hy : inI64 s.2.2) : (textS s).length ≤ 60 := by
  have h1 := Lib.itoa_length_le s.2.1 hx.1 hx.2
  have h2 := Lib.itoa_length_le s.2.2 hy.1 hy.2
  unfold textS wordB
  split
  · simp only [List.length_append, List.length_cons, List.length_nil]
    (repeat' split) <;> simp only [List.length_cons, List.length_nil] <;> omega
  · split
    · (repeat' split) <;> simp
    · simp
theorem textF_len {l : List Stp} (h : ∀ s ∈ l, inI64 s.2.1 ∧ inI64 s.2.2) : (textF l).length ≤ l.length * 60 := by
  induction l with
  | nil => simp [textF]
  | cons s l ih =>
    have h1 := ih (fun x hx => h x (by simp [hx]))
    have h2 := textS_len (h s (by simp)).1 (h s (by simp)).2
    unfold textF at h1 ⊢
    rw [List.flatMap_cons, List.length_append, List.length_cons]
    omega
theorem stps_bd {w : World} {D : Nat → Prop} {l : List Stp} {v : Value} (h : stR.slice.R w D l [v]) : ∀ s ∈ l, inI64 s.1 ∧ inI64 s.2.1 ∧ inI64 s.2.2 := by
  intro s hs
  obtain ⟨k, hk, rfl⟩ := List.getElem_of_mem hs
  obtain ⟨A, c, rfl, -, -⟩ := slice_inv h
  obtain ⟨b, off, o, x, y, -, hx, -, -, -, -, h1, h2, h3⟩ := steps_at h hk
  have e := hx.out
  rw [List.getElem?_eq_getElem hk] at e
  rw [Option.some.inj e]
  exact ⟨h1, h2, h3⟩
theorem bl_kept {B b : Nat} {l : List UInt8} {w w' : World} (h : Bl B b l w) (hb : Below w.heap.size w w') : Bl B b l w' := by
  have key : ∀ {p : Value} {bs : List Value}, Lib.BuilderAtF 67 5 B b p bs w → Lib.BuilderAtF 67 5 B b p bs w' := fun {p bs} h => by
    have hlt := h.lt
    obtain ⟨hB, v, hv, hown, hne⟩ := h
    exact ⟨hB, v, (hb.block b hlt).trans hv, hown.kept (row := none) ⟨hb.os, hb.tape, hb.output, hb.size, fun k hk _ => hb.block k hk⟩ (Classical.em _), hne⟩
  exact h.elim (fun x => .inl (key x)) (fun x => .inr (key x))
theorem bl_set {B b gq : Nat} {l : List UInt8} {w : World} {cs : Array Value} (h : Bl B b l w) (hq : Blk w gq 47 cs) (i : Nat) (u : Value) : Bl B b l (w.setCell ⟨gq, i, none⟩ u) := by
  have key : ∀ {p : Value} {bs : List Value}, Lib.BuilderAtF 67 5 B b p bs w → Lib.BuilderAtF 67 5 B b p bs (w.setCell ⟨gq, i, none⟩ u) := fun {p bs} h => by
    obtain ⟨hB, v, hv, hown, hne⟩ := h
    have hbq : b ≠ gq := fun e => by
      unfold Blk at hq
      rw [← e, hv] at hq
      injection hq with hq
      injection hq with _ hq
      exact absurd hq (by decide)
    refine ⟨hB, v, (Below.heap_setCell w ⟨gq, i, none⟩ u b hbq).trans hv, ?_, hne⟩
    refine hown.kept (row := some gq) (only_setCell (only_refl w _) (.inl rfl) u) ?_
    rcases hown.2 with ⟨rfl, _⟩ | ⟨g, cap, cur, fz, rfl, _, hg, _⟩
    · exact .inl rfl
    · refine .inr fun e => ?_
      have e : g = gq := by
        have : some g = some gq := e
        injection this
      unfold Blk at hq
      rw [← e, hg] at hq
      injection hq with hq
      injection hq with _ hq
      exact absurd hq (by decide)
  exact h.elim (fun x => .inl (key x)) (fun x => .inr (key x))
theorem pt_cells {w W : World} {g : Nat} {x y : Int} (hg : g < w.heap.size) (p0 : w.cell? ⟨g, 0, none⟩ = some (.int .i64 x)) (p1 : w.cell? ⟨g, 1, none⟩ = some (.int .i64 y)) (h : Below w.heap.size w W) : W.cell? ⟨g, 0, none⟩ = some (.int .i64 x) ∧ W.cell? ⟨g, 1, none⟩ = some (.int .i64 y) :=
  ⟨((bcell h).1 g 0 hg).trans p0, ((bcell h).1 g 1 hg).trans p1⟩
theorem pt_blk {W : World} {g : Nat} {t : TypeId} {x y : Int} (h : Blk W g t #[.int .i64 x, .int .i64 y]) : W.cell? ⟨g, 0, none⟩ = some (.int .i64 x) ∧ W.cell? ⟨g, 1, none⟩ = some (.int .i64 y) := ⟨h.c20, h.c21⟩
theorem word_move (x y : Int) (w : World) : Calls Tryd.prog 141 #[.agg #[.int .i64 x, .int .i64 y]] w (Ret (.string ⟨#[71, 48]⟩) w) := by
  have hb := (Below.refl w.heap.size w).alloc (Nat.le_refl _) (.cells #[.int .i64 x, .int .i64 y] 80)
  go_enter Tryd.func141, Tryd.ntmps141
  go_wp2
  go_ret
  exact ⟨rfl, hb⟩
theorem word_cut (x y : Int) (w : World) : Calls Tryd.prog 142 #[.agg #[.int .i64 x, .int .i64 y]] w (Ret (.string ⟨#[71, 49]⟩) w) := by
  have hb := (Below.refl w.heap.size w).alloc (Nat.le_refl _) (.cells #[.int .i64 x, .int .i64 y] 81)
  go_enter Tryd.func142, Tryd.ntmps142
  go_wp2
  go_ret
  exact ⟨rfl, hb⟩
theorem word_pierce (w : World) : Calls Tryd.prog 139 #[.agg #[]] w (Ret (.string ⟨#[77, 55]⟩) w) := by
  have hb := (Below.refl w.heap.size w).alloc (Nat.le_refl _) (.cells #[] 72)
  go_enter Tryd.func139, Tryd.ntmps139
  go_wp2
  go_ret
  exact ⟨rfl, hb⟩
theorem word_off (w : World) : Calls Tryd.prog 140 #[.agg #[]] w (Ret (.string ⟨#[77, 56]⟩) w) := by
  have hb := (Below.refl w.heap.size w).alloc (Nat.le_refl _) (.cells #[] 73)
  go_enter Tryd.func140, Tryd.ntmps140
  go_wp2
  go_ret
  exact ⟨rfl, hb⟩
attribute [local simp] as_move as_pierce as_cut as_off as_move_pierce as_move_cut as_move_off as_pierce_move as_pierce_cut as_pierce_off as_cut_move as_cut_pierce as_cut_off as_off_move as_off_pierce as_off_cut
set_option maxRecDepth 100000 in
set_option maxHeartbeats 4000000 in
theorem ncText_any (vl : Value) (l : List Stp) (w : World) (hl : stR.slice.R w (Lt w) l [vl]) (hn : l.length ≤ 400000) (hT : TabP w) : Calls Tryd.prog 16 #[vl] w (Ret (.string ⟨(textF l).toArray⟩) w) := by
  obtain ⟨A, c, rfl, hm, -⟩ := slice_inv hl
  have hbl0 := bl_fresh w
  have hw0 := (Below.refl w.heap.size w).alloc (Nat.le_refl _) (.cells #[.pointer none, .slice none 0 0] 67)
  go_enter Tryd.func16, Tryd.ntmps16
  go_wp2
  go_loopg [14] l.length (fun g iv wr => ∃ k : Nat, k + g = l.length ∧ iv = .int .i64 k ∧ Bl w.heap.size w.heap.size (textF (l.take k)) wr ∧ Below w.heap.size w wr)
  case atStart => exact ⟨0, Nat.zero_add _, rfl, hbl0, hw0⟩
  case round =>
    clear hbl0 hw0
    obtain ⟨k, hk, rfl, hbl, hb⟩ := hrel
    have hz := hb.size
    by_cases hlt : k < l.length
    · have hki : (k : Int) < (l.length : Int) := by omega
      obtain ⟨b, off, o, x, y, rfl, hx, hbD, c0, c1, c2, hox, hx1, hy1⟩ := steps_at (Rep.at_ hl hb) hlt
      have HTK := Lib.hid (textF_take hx.out)
      have hC := Lib.hid (op_any o x y)
      have hwA := ((Below.refl wr.heap.size wr).alloc (Nat.le_refl _) (.cells #[.int .i64 o, .int .i64 x, .int .i64 y] 49)).alloc (by simp) (.cells #[.int .i64 0, .int .i64 0] 47)
      have hblA := bl_kept hbl hwA
      have hbA := bstep hb hz hwA
      have hlen := textF_len (l := l.take k) (fun s hs => (stps_bd hl s (List.mem_of_mem_take hs)).2)
      have hlen2 : (textF (l.take k)).length ≤ 24000000 := by rw [List.length_take] at hlen; omega
      clear hlen hlt hb hwA
      have BP := Blk.new (wr.alloc (.cells #[.int .i64 o, .int .i64 x, .int .i64 y] 49)) 47 #[.int .i64 0, .int .i64 0]
      simp only [World.size_alloc] at BP
      by_cases h2 : o = 2
      · subst h2
        have HOV : Hid (opV 2 x y = .iface 72 (.agg #[])) := rfl
        have HTS : Hid (textF (l.take (k + 1)) = textF (l.take k) ++ [77, 55, 59, 10]) := by show _ = _; rw [HTK.out]; rfl
        go_wp2_with fail
        refine (hC.out _).mono ?_
        rintro e w1 ⟨rfl, hq⟩
        rw [HOV.out]
        have hbl1 := bl_kept hblA hq
        have hb1 := bstep hbA hbA.size hq
        go_wp2_with fail
        refine (word_pierce w1).mono ?_
        rintro e w2 ⟨rfl, hq⟩
        have hbl2 := bl_kept hbl1 hq
        have hb2 := bstep hb1 hb1.size hq
        clear hq hbl1 hb1 hblA hbA
        go_wp2_with fail
        refine (bld_str w.heap.size w.heap.size (textF (l.take k)) ⟨#[77, 55, 59, 10]⟩ _ hbl2 (show (textF (l.take k)).length + 4 ≤ _ by omega) hb2.size).mono ?_
        rintro e w3 ⟨rfl, hbl3, hq⟩
        have hb3 := hb2.trans hq
        clear hq hbl2 hb2
        go_wp2
        go_roundg (gk - 1)
        case measure => omega
        case rel => exact ⟨k + 1, by omega, by go_num, by rw [HTS.out]; exact hbl3, hb3⟩
      by_cases h4 : o = 4
      · have h2 := h4
        subst h2
        have HOV : Hid (opV 4 x y = .iface 73 (.agg #[])) := rfl
        have HTS : Hid (textF (l.take (k + 1)) = textF (l.take k) ++ [77, 56, 59, 10]) := by show _ = _; rw [HTK.out]; rfl
        go_wp2_with fail
        refine (hC.out _).mono ?_
        rintro e w1 ⟨rfl, hq⟩
        rw [HOV.out]
        have hbl1 := bl_kept hblA hq
        have hb1 := bstep hbA hbA.size hq
        go_wp2_with fail
        refine (word_off w1).mono ?_
        rintro e w2 ⟨rfl, hq⟩
        have hbl2 := bl_kept hbl1 hq
        have hb2 := bstep hb1 hb1.size hq
        clear hq hbl1 hb1 hblA hbA
        go_wp2_with fail
        refine (bld_str w.heap.size w.heap.size (textF (l.take k)) ⟨#[77, 56, 59, 10]⟩ _ hbl2 (show (textF (l.take k)).length + 4 ≤ _ by omega) hb2.size).mono ?_
        rintro e w3 ⟨rfl, hbl3, hq⟩
        have hb3 := hb2.trans hq
        clear hq hbl2 hb2
        go_wp2
        go_roundg (gk - 1)
        case measure => omega
        case rel => exact ⟨k + 1, by omega, by go_num, by rw [HTS.out]; exact hbl3, hb3⟩
      by_cases h1 : o = 1
      · have h2 := h1
        subst h2
        have HOV : Hid (opV 1 x y = .iface 80 (.agg #[.int .i64 x, .int .i64 y])) := rfl
        have HTS : Hid (textF (l.take (k + 1)) = textF (l.take k) ++ ([71, 48] ++ [32, 88] ++ Lib.itoa x ++ [32, 89] ++ Lib.itoa y ++ [59, 10])) := by show _ = _; rw [HTK.out]; rfl
        go_wp2_with fail
        refine (hC.out _).mono ?_
        rintro e w1 ⟨rfl, hq⟩
        rw [HOV.out]
        have hbl1 := bl_kept hblA hq
        have hb1 := bstep hbA hbA.size hq
        have hz1 := hq.size
        have BP1 := BP.below hq BP.lt
        have p0 := BP1.c20
        have p1 := BP1.c21
        have pf0 := BP1.free 0
        have pf1 := BP1.free 1
        have hpz : wr.heap.size + 1 < w1.heap.size := BP1.lt
        have hpn : ¬ wr.heap.size + 1 = w1.heap.size := by omega
        clear c0 c1 c2 hz1
        go_upto_region 19 with fail
        have BP2 : Blk (((w1.setCell ⟨wr.heap.size + 1, 0, none⟩ (.int .i64 x)).setCell ⟨wr.heap.size + 1, 1, none⟩ (.int .i64 y)).alloc (.cells #[.int .i64 x, .int .i64 y] 80)) (wr.heap.size + 1) 47 #[.int .i64 x, .int .i64 y] := ((BP1.set_ 0 (.int .i64 x)).set_ 1 (.int .i64 y)).alloc _
        have hbl2 : Bl w.heap.size w.heap.size (textF (l.take k)) (((w1.setCell ⟨wr.heap.size + 1, 0, none⟩ (.int .i64 x)).setCell ⟨wr.heap.size + 1, 1, none⟩ (.int .i64 y)).alloc (.cells #[.int .i64 x, .int .i64 y] 80)) :=
          bl_kept (bl_set (bl_set hbl1 BP1 0 (.int .i64 x)) (BP1.set_ 0 (.int .i64 x)) 1 (.int .i64 y)) ((Below.refl _ _).alloc (Nat.le_refl _) _)
        have hb2 : Below w.heap.size w (((w1.setCell ⟨wr.heap.size + 1, 0, none⟩ (.int .i64 x)).setCell ⟨wr.heap.size + 1, 1, none⟩ (.int .i64 y)).alloc (.cells #[.int .i64 x, .int .i64 y] 80)) :=
          ((hb1.setCell (p := ⟨wr.heap.size + 1, 0, none⟩) (by show w.heap.size ≤ wr.heap.size + 1; omega) _).setCell (p := ⟨wr.heap.size + 1, 1, none⟩) (by show w.heap.size ≤ wr.heap.size + 1; omega) _).alloc (by have := hb1.size; simp [World.setCell]; exact this) _
        have hT2 : TabP (((w1.setCell ⟨wr.heap.size + 1, 0, none⟩ (.int .i64 x)).setCell ⟨wr.heap.size + 1, 1, none⟩ (.int .i64 y)).alloc (.cells #[.int .i64 x, .int .i64 y] 80)) := hT.below hb2
        generalize ((w1.setCell ⟨wr.heap.size + 1, 0, none⟩ (.int .i64 x)).setCell ⟨wr.heap.size + 1, 1, none⟩ (.int .i64 y)).alloc (.cells #[.int .i64 x, .int .i64 y] 80) = w2 at *
        have p0 := BP2.c20
        have p1 := BP2.c21
        have hgz := BP2.lt
        have HBL2 := Lib.hid hbl2
        have HT2 := Lib.hid hT2
        have HTX := Lib.hid (fun W h => text_any x W hx1.1 hx1.2 h)
        have HTY := Lib.hid (fun W h => text_any y W hy1.1 hy1.2 h)
        have lx := Lib.itoa_length_le x hx1.1 hx1.2
        have ly := Lib.itoa_length_le y hy1.1 hy1.2
        obtain ⟨tx, htx⟩ : ∃ t, t = Lib.itoa x := ⟨_, rfl⟩
        obtain ⟨ty, hty⟩ : ∃ t, t = Lib.itoa y := ⟨_, rfl⟩
        rw [← htx] at HTX HTS lx
        rw [← hty] at HTY HTS ly
        have hs1 : ¬ 9223372036854775807 < 4 + tx.length := by omega
        have hs2 : ¬ 9223372036854775807 < 4 + tx.length + 2 := by omega
        have hs3 : ¬ 9223372036854775807 < 4 + tx.length + 2 + ty.length := by omega
        have hs4 : ¬ 9223372036854775807 < 4 + tx.length + 2 + ty.length + 2 := by omega
        clear htx hty hbl2 hT2 hbl1 BP1 BP
        have HSL : Hid ((⟨#[71, 48]⟩ ++ ⟨#[32, 88]⟩ ++ ⟨tx.toArray⟩ ++ ⟨#[32, 89]⟩ ++ ⟨ty.toArray⟩ ++ ⟨#[59, 10]⟩ : ByteArray).data.toList = [71, 48] ++ [32, 88] ++ tx ++ [32, 89] ++ ty ++ [59, 10]) := by show _ = _; simp
        have HSZ : Hid ((⟨#[71, 48]⟩ ++ ⟨#[32, 88]⟩ ++ ⟨tx.toArray⟩ ++ ⟨#[32, 89]⟩ ++ ⟨ty.toArray⟩ ++ ⟨#[59, 10]⟩ : ByteArray).size ≤ 100) := by
          show _ ≤ _
          rw [← size_list, HSL.out]
          simp only [List.length_append, List.length_cons, List.length_nil]
          omega
        have HLT : Hid ((textF (l.take k)).length + 100 ≤ 140737488355328) := by show _ ≤ _; omega
        have hwz := Lib.hid hb2.size
        have hw2d : Below w2.heap.size w2 w2.drew := (Below.refl _ _).drew
        go_region_held3 (fun W => W.cell? ⟨wr.heap.size + 1, 0, none⟩ = some (.int .i64 x) ∧ W.cell? ⟨wr.heap.size + 1, 1, none⟩ = some (.int .i64 y))
          (first
            | exact ⟨p0, p1⟩
            | exact pt_cells hgz p0 p1 (by assumption)
            | exact pt_blk (by assumption))
          (first
            | (go_at_call 141
               refine (word_move x y _).mono ?_
               rintro e W1 ⟨rfl, hq⟩
               have hSa : Below w2.heap.size w2 W1 := bstep (B := w2.heap.size) (a := w2) (by assumption) (Below.size (by assumption)) hq
               clear hq)
            | (go_at_call 34
               refine (HTX.out _ (HT2.out.below (by assumption))).mono ?_
               rintro e W1 ⟨rfl, hq⟩
               have hSa : Below w2.heap.size w2 W1 := bstep (B := w2.heap.size) (a := w2) (by assumption) (Below.size (by assumption)) hq
               clear hq)
            | (go_at_call 34
               refine (HTY.out _ (HT2.out.below (by assumption))).mono ?_
               rintro e W1 ⟨rfl, hq⟩
               have hSa : Below w2.heap.size w2 W1 := bstep (B := w2.heap.size) (a := w2) (by assumption) (Below.size (by assumption)) hq
               clear hq)
            | (go_at_call 33
               refine (bld_str_k w.heap.size w.heap.size (textF (l.take k)) _ _ (bl_kept HBL2.out (by assumption)) (Nat.le_trans (Nat.add_le_add_left HSZ.out _) HLT.out) (Nat.le_trans hwz.out (Below.size (by assumption)))).mono ?_
               rintro e W2 ⟨rfl, hbl3, hq3, hk3⟩
               have BP3 := hk3 _ _ _ (Blk.below BP2 (by assumption) hgz) (by decide) (by decide)
               have hb3 := (bstep hb2 hwz.out (by assumption)).trans hq3
               clear hq3 hk3))
        go_wp2
        go_roundg (gk - 1)
        case measure => omega
        case rel => exact ⟨k + 1, by omega, by go_num, by rw [HTS.out, ← HSL.out]; exact hbl3, hb3⟩
      by_cases h3 : o = 3
      · have h2 := h3
        subst h2
        have HOV : Hid (opV 3 x y = .iface 81 (.agg #[.int .i64 x, .int .i64 y])) := rfl
        have HTS : Hid (textF (l.take (k + 1)) = textF (l.take k) ++ ([71, 49] ++ [32, 88] ++ Lib.itoa x ++ [32, 89] ++ Lib.itoa y ++ [59, 10])) := by show _ = _; rw [HTK.out]; rfl
        go_wp2_with fail
        refine (hC.out _).mono ?_
        rintro e w1 ⟨rfl, hq⟩
        rw [HOV.out]
        have hbl1 := bl_kept hblA hq
        have hb1 := bstep hbA hbA.size hq
        have hz1 := hq.size
        have BP1 := BP.below hq BP.lt
        have p0 := BP1.c20
        have p1 := BP1.c21
        have pf0 := BP1.free 0
        have pf1 := BP1.free 1
        have hpz : wr.heap.size + 1 < w1.heap.size := BP1.lt
        have hpn : ¬ wr.heap.size + 1 = w1.heap.size := by omega
        clear c0 c1 c2 hz1
        go_upto_region 19 with fail
        have BP2 : Blk (((w1.setCell ⟨wr.heap.size + 1, 0, none⟩ (.int .i64 x)).setCell ⟨wr.heap.size + 1, 1, none⟩ (.int .i64 y)).alloc (.cells #[.int .i64 x, .int .i64 y] 81)) (wr.heap.size + 1) 47 #[.int .i64 x, .int .i64 y] := ((BP1.set_ 0 (.int .i64 x)).set_ 1 (.int .i64 y)).alloc _
        have hbl2 : Bl w.heap.size w.heap.size (textF (l.take k)) (((w1.setCell ⟨wr.heap.size + 1, 0, none⟩ (.int .i64 x)).setCell ⟨wr.heap.size + 1, 1, none⟩ (.int .i64 y)).alloc (.cells #[.int .i64 x, .int .i64 y] 81)) :=
          bl_kept (bl_set (bl_set hbl1 BP1 0 (.int .i64 x)) (BP1.set_ 0 (.int .i64 x)) 1 (.int .i64 y)) ((Below.refl _ _).alloc (Nat.le_refl _) _)
        have hb2 : Below w.heap.size w (((w1.setCell ⟨wr.heap.size + 1, 0, none⟩ (.int .i64 x)).setCell ⟨wr.heap.size + 1, 1, none⟩ (.int .i64 y)).alloc (.cells #[.int .i64 x, .int .i64 y] 81)) :=
          ((hb1.setCell (p := ⟨wr.heap.size + 1, 0, none⟩) (by show w.heap.size ≤ wr.heap.size + 1; omega) _).setCell (p := ⟨wr.heap.size + 1, 1, none⟩) (by show w.heap.size ≤ wr.heap.size + 1; omega) _).alloc (by have := hb1.size; simp [World.setCell]; exact this) _
        have hT2 : TabP (((w1.setCell ⟨wr.heap.size + 1, 0, none⟩ (.int .i64 x)).setCell ⟨wr.heap.size + 1, 1, none⟩ (.int .i64 y)).alloc (.cells #[.int .i64 x, .int .i64 y] 81)) := hT.below hb2
        generalize ((w1.setCell ⟨wr.heap.size + 1, 0, none⟩ (.int .i64 x)).setCell ⟨wr.heap.size + 1, 1, none⟩ (.int .i64 y)).alloc (.cells #[.int .i64 x, .int .i64 y] 81) = w2 at *
        have p0 := BP2.c20
        have p1 := BP2.c21
        have hgz := BP2.lt
        have HBL2 := Lib.hid hbl2
        have HT2 := Lib.hid hT2
        have HTX := Lib.hid (fun W h => text_any x W hx1.1 hx1.2 h)
        have HTY := Lib.hid (fun W h => text_any y W hy1.1 hy1.2 h)
        have lx := Lib.itoa_length_le x hx1.1 hx1.2
        have ly := Lib.itoa_length_le y hy1.1 hy1.2
        obtain ⟨tx, htx⟩ : ∃ t, t = Lib.itoa x := ⟨_, rfl⟩
        obtain ⟨ty, hty⟩ : ∃ t, t = Lib.itoa y := ⟨_, rfl⟩
        rw [← htx] at HTX HTS lx
        rw [← hty] at HTY HTS ly
        have hs1 : ¬ 9223372036854775807 < 4 + tx.length := by omega
        have hs2 : ¬ 9223372036854775807 < 4 + tx.length + 2 := by omega
        have hs3 : ¬ 9223372036854775807 < 4 + tx.length + 2 + ty.length := by omega
        have hs4 : ¬ 9223372036854775807 < 4 + tx.length + 2 + ty.length + 2 := by omega
        clear htx hty hbl2 hT2 hbl1 BP1 BP
        have HSL : Hid ((⟨#[71, 49]⟩ ++ ⟨#[32, 88]⟩ ++ ⟨tx.toArray⟩ ++ ⟨#[32, 89]⟩ ++ ⟨ty.toArray⟩ ++ ⟨#[59, 10]⟩ : ByteArray).data.toList = [71, 49] ++ [32, 88] ++ tx ++ [32, 89] ++ ty ++ [59, 10]) := by show _ = _; simp
        have HSZ : Hid ((⟨#[71, 49]⟩ ++ ⟨#[32, 88]⟩ ++ ⟨tx.toArray⟩ ++ ⟨#[32, 89]⟩ ++ ⟨ty.toArray⟩ ++ ⟨#[59, 10]⟩ : ByteArray).size ≤ 100) := by
          show _ ≤ _
          rw [← size_list, HSL.out]
          simp only [List.length_append, List.length_cons, List.length_nil]
          omega
        have HLT : Hid ((textF (l.take k)).length + 100 ≤ 140737488355328) := by show _ ≤ _; omega
        have hwz := Lib.hid hb2.size
        have hw2d : Below w2.heap.size w2 w2.drew := (Below.refl _ _).drew
        go_region_held3 (fun W => W.cell? ⟨wr.heap.size + 1, 0, none⟩ = some (.int .i64 x) ∧ W.cell? ⟨wr.heap.size + 1, 1, none⟩ = some (.int .i64 y))
          (first
            | exact ⟨p0, p1⟩
            | exact pt_cells hgz p0 p1 (by assumption)
            | exact pt_blk (by assumption))
          (first
            | (go_at_call 142
               refine (word_cut x y _).mono ?_
               rintro e W1 ⟨rfl, hq⟩
               have hSa : Below w2.heap.size w2 W1 := bstep (B := w2.heap.size) (a := w2) (by assumption) (Below.size (by assumption)) hq
               clear hq)
            | (go_at_call 34
               refine (HTX.out _ (HT2.out.below (by assumption))).mono ?_
               rintro e W1 ⟨rfl, hq⟩
               have hSa : Below w2.heap.size w2 W1 := bstep (B := w2.heap.size) (a := w2) (by assumption) (Below.size (by assumption)) hq
               clear hq)
            | (go_at_call 34
               refine (HTY.out _ (HT2.out.below (by assumption))).mono ?_
               rintro e W1 ⟨rfl, hq⟩
               have hSa : Below w2.heap.size w2 W1 := bstep (B := w2.heap.size) (a := w2) (by assumption) (Below.size (by assumption)) hq
               clear hq)
            | (go_at_call 33
               refine (bld_str_k w.heap.size w.heap.size (textF (l.take k)) _ _ (bl_kept HBL2.out (by assumption)) (Nat.le_trans (Nat.add_le_add_left HSZ.out _) HLT.out) (Nat.le_trans hwz.out (Below.size (by assumption)))).mono ?_
               rintro e W2 ⟨rfl, hbl3, hq3, hk3⟩
               have BP3 := hk3 _ _ _ (Blk.below BP2 (by assumption) hgz) (by decide) (by decide)
               have hb3 := (bstep hb2 hwz.out (by assumption)).trans hq3
               clear hq3 hk3))
        go_wp2
        go_roundg (gk - 1)
        case measure => omega
        case rel => exact ⟨k + 1, by omega, by go_num, by rw [HTS.out, ← HSL.out]; exact hbl3, hb3⟩
      have HOV : Hid (opV o x y = .nilIface) := by show _ = _; unfold opV; rw [if_neg h1, if_neg h2, if_neg h3, if_neg h4]
      have HTS : Hid (textF (l.take (k + 1)) = textF (l.take k)) := by
        show _ = _
        rw [HTK.out]
        unfold textS
        rw [if_neg (by rintro (h | h); exact h1 h; exact h3 h), if_neg (by rintro (h | h); exact h2 h; exact h4 h), List.append_nil]
      clear h1 h2 h3 h4
      go_wp2_with fail
      refine (hC.out _).mono ?_
      rintro e w1 ⟨rfl, hq⟩
      rw [HOV.out]
      have hbl1 := bl_kept hblA hq
      have hb1 := bstep hbA hbA.size hq
      go_wp2
      go_roundg (gk - 1)
      case measure => omega
      case rel => exact ⟨k + 1, by omega, by go_num, by rw [HTS.out]; exact hbl1, hb1⟩
    · have hki : ¬ (k : Int) < (l.length : Int) := by omega
      have hkl : k = l.length := by omega
      rw [hkl, List.take_length] at hbl
      clear hlt hkl
      go_wp2_with fail
      refine (Tryd.Builder_String_any_f _ _ _ _ hbl hz).mono ?_
      rintro e w1 ⟨rfl, -, hb1⟩
      go_wp2
      go_ret
      exact ⟨rfl, hb.trans hb1⟩
end Go.Proofs.YthfnncnmggkfaaaDoor

namespace Go.Proofs.YthfnncnmggkfaaaDoor
open Go Go.RowKit

def avShp : List Shp := [([(0, 0), (4, 0), (0, 3)], [])]
def avL : List Stp := [(1, 0, 0), (2, 0, 0), (3, 4, 0), (3, 0, 3), (3, 0, 0), (4, 0, 0)]
def avText : List UInt8 := [71, 48, 32, 88, 48, 32, 89, 48, 59, 10, 77, 55, 59, 10, 71, 49, 32, 88, 52, 32, 89, 48, 59, 10, 71, 49, 32, 88, 48, 32, 89, 51, 59, 10, 71, 49, 32, 88, 48, 32, 89, 48, 59, 10, 77, 56, 59, 10]
theorem av_make : makeF avShp [(0, 0)] = (avL, 0) := by decide +kernel
theorem av_text : textF avL = avText := by decide +kernel
theorem av_parse : parseF avText = (avL, 0, 0) := by decide +kernel
theorem av_bad : parseF [71, 48, 32, 88, 49, 59] = ([], 5, 5) := by decide +kernel
theorem av_run : (runF avL).2 = 0 ∧ (runF avL).1.rings = [[(0, 0), (4, 0), (0, 3)]] ∧ (runF avL).1.tr = 0 ∧ (runF avL).1.bu = 11 ∧ (runF avL).1.pi = 1 := by decide +kernel
theorem av_cut : (runF [(3, 0, 0)]).2 = 14 := by decide +kernel
theorem av_smallS : SmallS avShp := ⟨by decide, by decide⟩
theorem av_smallR : SmallR avShp := by unfold SmallR; decide +kernel
end Go.Proofs.YthfnncnmggkfaaaDoor

/- Chapter 15: Clone, Contains and IndexFunc of the library, at integers, grades and sections, by walking their text. -/
import Derived.Test.YtacbmmnipedpdaaDoorMatW7
import Derived.Lib.SliceRun
namespace Go.Proofs.YtacbmmnipedpdaaDoor
open Go Go.RowKit

theorem mt_int_info : (Tryd.prog.info? 3).map (fun i => (i.zero, i.size, i.bytes)) = some (some (.int .i64 0), 1, 8) := by kernel_rfl
theorem mt_made (w : World) : (w.alloc (.cells #[] 3)).ownsRow w.heap.size 3 1 (.slice (some ⟨w.heap.size, 0, none⟩) 0 0) 0 [] := World.ownsRow_made _ _ _ (Nat.le_refl _) (by unfold maxLen; omega) rfl
theorem ints_D {w : World} {D D' : Nat → Prop} {xs : List Int} {A : Option Addr} {n c : Nat} (h : Rep.int.slice.R w D xs [.slice A n c]) (hA : ∀ b off, A = some ⟨b, off, none⟩ → D' b) : Rep.int.slice.R w D' xs [.slice A n c] := by
  obtain ⟨A', c', e, h1, h2, h3⟩ := h
  injection e with e _
  injection e with e1 e2 e3
  subst e1 e2 e3
  refine ⟨A, c, rfl, h1, h2, fun k hk => ?_⟩
  obtain ⟨b, off, es, e4, hb, hr, hc⟩ := h3 k hk
  exact ⟨b, off, es, e4, hA b off e4, hr, hc⟩
theorem own_new {w : World} {base : Nat} {e : TypeId} {v : Value} {n : Nat} {xs : List Int} (h : w.ownsRow base e 1 v n (xs.map (Value.int .i64))) (hx : ∀ x ∈ xs, inI64 x) : Rep.int.slice.R w (fun b => base ≤ b ∧ b < w.heap.size) xs [v] := by
  have h1 := own_ints h hx
  obtain ⟨A, c, rfl, -, -⟩ := slice_inv h1
  refine ints_D h1 (fun b off eA => ?_)
  subst eA
  exact World.ownsRow.lt h b rfl
/-- integers in a new block. -/
def IntsPost (ts : List Int) (w : World) (e : Ending) (w' : World) : Prop := ∃ v, e = .returned v ∧ Rep.int.slice.R w' (fun b => w.heap.size ≤ b ∧ b < w'.heap.size) ts [v] ∧ Below w.heap.size w w'
set_option maxRecDepth 100000 in
set_option maxHeartbeats 800000 in
theorem cloneInts_any (G : Option Addr) (n c : Nat) (ts : List Int) (w : World) (hG : Rep.int.slice.R w (Lt w) ts [.slice G n c]) (h3 : ts.length ≤ 1000) :
    Calls Tryd.prog 34 #[.slice G n c] w (IntsPost ts w) := by
  obtain ⟨hn, hnm⟩ := slice_ln hG
  have q22 : ∀ (w : World) (a : Option Addr) (n c n' c' : Nat), (binOp .eql 30 (.slice a n c) (.slice none n' c')).run Tryd.prog w = .ok (.bool a.isNone) w := fun w a n c n' c' => Lib.run_eql_slice_nil w _ _ a n c n' c' Tryd.underlying30
  cases G with
  | none =>
    obtain ⟨rfl, rfl⟩ := slice_none hG
    clear hnm h3 hn
    go_enter Tryd.func34, Tryd.ntmps34
    go_wp2
    go_ret
    exact ⟨_, rfl, Rep.slice_nil _ _ _, Below.refl _ _⟩
  | some a =>
    obtain ⟨i0, hi, hz0, hz1, hz2⟩ := info_parts mt_int_info
    have hbd := ints_bd hG
    have hG1 := Rep.below hG ((Below.refl _ _).alloc (Nat.le_refl _) (.cells #[] 3))
    go_enter Tryd.func34, Tryd.ntmps34
    go_wp2_with (at_builtin; refine wpList_append_flat flat_int rfl _ _ 30 rfl w.heap.size 3 i0 (.int .i64 0) 8 Tryd.underlying30 hi hz0 hz1 hz2 rfl _ _ _ rfl (mt_made w) ts rfl hG1 (by omega) (by omega) (by simp) ?_; intro v1 w1 hown hg1)
    go_wp2
    go_ret
    simp only [Nat.zero_add, List.nil_append, fm_int] at hown
    exact ⟨_, rfl, own_new hown hbd, ((Below.refl _ _).alloc (Nat.le_refl _) _).grown hg1 (by simp) (fun j hj => by have e : w.heap.size = j := Option.some.inj hj; omega)⟩
def IxPost (b : Bool) (w : World) (e : Ending) (w' : World) : Prop := ∃ n : Int, e = .returned (.int .i64 n) ∧ Hid (decide (0 ≤ n) = b) ∧ w' = w
set_option maxHeartbeats 400000 in
theorem indexInt_any (v : Value) (l : List Int) (x : Int) (w : World) (hl : Rep.int.slice.R w (Lt w) l [v]) :
    Calls Tryd.prog 58 #[v, .int .i64 x] w (IxPost (l.contains x) w) := by
  obtain ⟨A, c, rfl, hm, -⟩ := slice_inv hl
  obtain ⟨b, hb⟩ : ∃ b, b = l.contains x := ⟨_, rfl⟩
  rw [← hb]
  have HB := Lib.hid hb
  clear hb
  go_enter Tryd.func58, Tryd.ntmps58
  go_wp2
  go_loop [8] (fun i => ∃ k : Nat, k ≤ l.length ∧ i = .int .i64 k ∧ Hid (x ∉ l.take k)) (fun i => l.length - (intOf i).toNat)
  case atStart => exact ⟨0, Nat.zero_le _, rfl, by show x ∉ l.take 0; simp⟩
  case round =>
    obtain ⟨k, hk, rfl, hno⟩ := hrel
    by_cases hlt : k < l.length
    · have hki : (k : Int) < (l.length : Int) := by omega
      obtain ⟨b', off, y, rfl, hy, -, c0, -, -⟩ := ints_at hl hlt
      by_cases hxy : x = y
      · subst hxy
        have e1 : b = true := by rw [HB.out]; simp [List.mem_of_getElem? hy.out]
        subst e1
        have q := beq_self_int x
        go_wp2
        go_ret
        exact ⟨k, rfl, by show decide _ = _; simp, rfl⟩
      · have q : (x == y) = false := ieq_f hxy
        have HN : Hid (x ∉ l.take (k + 1)) := by
          show x ∉ l.take (k + 1)
          rw [take_one hy.out]
          have := hno.out
          simp [this, hxy]
        clear hxy
        go_wp2
        go_round
        case rel => exact ⟨k + 1, by omega, by go_num, HN.out⟩
        case measure => simp [intOf]; omega
    · have hki : ¬ (k : Int) < (l.length : Int) := by omega
      have e1 : b = false := by
        have := hno.out
        rw [List.take_of_length_le (by omega)] at this
        rw [HB.out]
        simpa using this
      subst e1
      go_wp2
      go_ret
      exact ⟨-1, rfl, by show decide _ = _; decide, rfl⟩
theorem containsInt_any (v : Value) (l : List Int) (x : Int) (w : World) (hl : Rep.int.slice.R w (Lt w) l [v]) :
    Calls Tryd.prog 38 #[v, .int .i64 x] w fun e w' => e = .returned (.bool (l.contains x)) ∧ w' = w := by
  have C := indexInt_any v l x w hl
  generalize l.contains x = b at *
  go_enter Tryd.func38, Tryd.ntmps38
  go_wp2_with fail
  refine C.mono ?_
  rintro e w1 ⟨i, rfl, hi, rfl⟩
  go_wp2
  go_ret
  exact ⟨ret_bool hi.out, rfl⟩
/-! the first element with a property -/
theorem find_hit {α : Type} {l : List α} {p : α → Bool} {k : Nat} {x : α} (h : (l.take k).any p = false) (hx : l[k]? = some x) (hp : p x = true) : l.find? p = some x := by
  have hk := lt_of_get hx
  have e : l = l.take k ++ x :: l.drop (k + 1) := by
    rw [List.getElem?_eq_getElem hk] at hx
    injection hx with hx
    rw [← hx, ← List.drop_eq_getElem_cons hk, List.take_append_drop]
  rw [e, List.find?_append, List.find?_eq_none.2 (fun a ha => by
    rw [List.any_eq_false] at h
    exact h a ha), Option.none_or, List.find?_cons_of_pos hp]
theorem find_miss {α : Type} {l : List α} {p : α → Bool} (h : l.any p = false) : l.find? p = none := by
  rw [List.find?_eq_none]
  intro a ha
  rw [List.any_eq_false] at h
  exact h a ha
theorem any_step {α : Type} {l : List α} {p : α → Bool} {k : Nat} {x : α} (h : (l.take k).any p = false) (hx : l[k]? = some x) (hp : p x = false) : (l.take (k + 1)).any p = false := by
  rw [List.take_add_one, hx]; simp [h, hp]
def FindPost {α : Type} (l : List α) (p : α → Bool) (w : World) (e : Ending) (w' : World) : Prop :=
  ∃ n : Int, e = .returned (.int .i64 n) ∧ Hid ((n = -1 ∧ l.find? p = none) ∨ ∃ (i : Nat) (x : α), n = i ∧ i < l.length ∧ l[i]? = some x ∧ l.find? p = some x) ∧ Below w.heap.size w w'
theorem str_eq (a b : List UInt8) : (a == b) = decide (a = b) := by
  rw [Bool.eq_iff_iff]; simp
theorem grClos_any (g : Nat) (nx nm : List UInt8) (d y : Int) (s : Value) (w : World) (hb : Blk w g 9 #[.string (bA nm)]) :
    Calls Tryd.prog 33 #[.agg #[.string (bA nx), .int .i64 d, .int .i64 y, s], .pointer (some ⟨g, 0, none⟩)] w (Ret (.bool (nx == nm)) w) := by
  have hbx := (Below.refl w.heap.size w).alloc (Nat.le_refl _) (.cells #[.string (bA nx), .int .i64 d, .int .i64 y, s] 32)
  have c0 : (w.alloc (.cells #[.string (bA nx), .int .i64 d, .int .i64 y, s] 32)).cell? ⟨w.heap.size, 0, none⟩ = some (.string (bA nx)) := (Blk.new w 32 #[.string (bA nx), .int .i64 d, .int .i64 y, s]).cell 0
  have d0 : (w.alloc (.cells #[.string (bA nx), .int .i64 d, .int .i64 y, s] 32)).cell? ⟨g, 0, none⟩ = some (.string (bA nm)) := (hb.alloc _).c0
  clear hb
  obtain ⟨r, hr⟩ : ∃ r, r = (nx == nm) := ⟨_, rfl⟩
  have HR := Lib.hid hr
  rw [← hr]
  clear hr
  go_enter Tryd.func33, Tryd.ntmps33
  go_wp2
  go_ret
  exact ⟨ret_bool (by rw [HR.out]), hbx⟩
theorem scClos_any (g : Nat) (nx nm : List UInt8) (d y z : Int) (w : World) (hb : Blk w g 9 #[.string (bA nm)]) :
    Calls Tryd.prog 36 #[.agg #[.string (bA nx), .int .i64 d, .int .i64 y, .int .i64 z], .pointer (some ⟨g, 0, none⟩)] w (Ret (.bool (nx == nm)) w) := by
  have hbx := (Below.refl w.heap.size w).alloc (Nat.le_refl _) (.cells #[.string (bA nx), .int .i64 d, .int .i64 y, .int .i64 z] 36)
  have c0 : (w.alloc (.cells #[.string (bA nx), .int .i64 d, .int .i64 y, .int .i64 z] 36)).cell? ⟨w.heap.size, 0, none⟩ = some (.string (bA nx)) := (Blk.new w 36 #[.string (bA nx), .int .i64 d, .int .i64 y, .int .i64 z]).cell 0
  have d0 : (w.alloc (.cells #[.string (bA nx), .int .i64 d, .int .i64 y, .int .i64 z] 36)).cell? ⟨g, 0, none⟩ = some (.string (bA nm)) := (hb.alloc _).c0
  clear hb
  obtain ⟨r, hr⟩ : ∃ r, r = (nx == nm) := ⟨_, rfl⟩
  have HR := Lib.hid hr
  rw [← hr]
  clear hr
  go_enter Tryd.func36, Tryd.ntmps36
  go_wp2
  go_ret
  exact ⟨ret_bool (by rw [HR.out]), hbx⟩
set_option maxRecDepth 100000 in
set_option maxHeartbeats 2000000 in
theorem findGrade_any (A : Option Addr) (n c g : Nat) (l : List Gr) (nm : List UInt8) (w : World) (hl : grR.slice.R w (Lt w) l [.slice A n c]) (hb : Blk w g 9 #[.string (bA nm)]) :
    Calls Tryd.prog 32 #[.slice A n c, .func (.func 33) #[] #[.pointer (some ⟨g, 0, none⟩)]] w (FindPost l (fun x => x.1 == nm) w) := by
  obtain ⟨hn, hnm⟩ := slice_ln hl
  have HL := Lib.hid hl
  have HB := Lib.hid hb
  have HN := Lib.hid hn
  have hgl := hb.lt
  clear hl hn hb
  go_enter Tryd.func32, Tryd.ntmps32
  go_wp2
  go_loopw [8] (fun i wr => ∃ k : Nat, k ≤ n ∧ i = .int .i64 k ∧ Hid ((l.take k).any (fun x => x.1 == nm) = false) ∧ Below w.heap.size w wr) (fun i _ => n - (intOf i).toNat)
  case atStart => exact ⟨0, Nat.zero_le _, rfl, rfl, Below.refl _ _⟩
  case round =>
    obtain ⟨k, hk, rfl, hno, hb⟩ := hrel
    have hgb := (HB.out.below hb hgl).c0
    have hwr := hb.size
    by_cases hlt : k < n
    · have hki : (k : Int) < (n : Int) := by omega
      obtain ⟨b, off, nx, d, y, ts, G, ng, cg, rfl, hx, hK, -, -, -, -, -, -⟩ := gr_all HL.out (k := k) (by rw [← HN.out]; exact hlt)
      obtain ⟨k0, k1, k2, k3⟩ := hK.out _ hb
      have C := Lib.hid (grClos_any g nx nm d y (.slice G ng cg) wr (HB.out.below hb hgl))
      have HX := Lib.hid hx.out
      clear hx
      by_cases he : nx = nm
      · have HP : Hid ((fun x : Gr => x.1 == nm) (nx, d, y, ts) = true) := by show (nx == nm) = true; simp [he]
        rw [show (nx == nm) = true from HP.out] at C
        clear he
        go_wp2_with fail
        refine C.out.mono ?_
        rintro e w1 ⟨rfl, hb1⟩
        have hbx := bstep hb hwr hb1
        go_wp2
        go_ret
        exact ⟨k, rfl, .inr ⟨k, _, rfl, by have := HN.out; omega, HX.out, find_hit hno.out HX.out HP.out⟩, hbx⟩
      · have HP : Hid ((fun x : Gr => x.1 == nm) (nx, d, y, ts) = false) := by show (nx == nm) = false; rw [str_eq]; exact decide_eq_false he
        rw [show (nx == nm) = false from HP.out] at C
        clear he
        go_wp2_with fail
        refine C.out.mono ?_
        rintro e w1 ⟨rfl, hb1⟩
        have hbx := bstep hb hwr hb1
        go_wp2
        go_roundw
        case rel => exact ⟨k + 1, by omega, by go_num, any_step hno.out HX.out HP.out, hbx⟩
        case measure => simp [intOf]; omega
    · have hki : ¬ (k : Int) < (n : Int) := by omega
      have HF : Hid (l.find? (fun x => x.1 == nm) = none) := find_miss (by
        have := hno.out
        rwa [List.take_of_length_le (by have := HN.out; omega)] at this)
      go_wp2
      go_ret
      exact ⟨-1, rfl, .inl ⟨rfl, HF.out⟩, hb⟩
set_option maxRecDepth 100000 in
set_option maxHeartbeats 2000000 in
theorem findSection_any (A : Option Addr) (n c g : Nat) (l : List Sc) (nm : List UInt8) (w : World) (hl : scR.slice.R w (Lt w) l [.slice A n c]) (hb : Blk w g 9 #[.string (bA nm)]) :
    Calls Tryd.prog 35 #[.slice A n c, .func (.func 36) #[] #[.pointer (some ⟨g, 0, none⟩)]] w (FindPost l (fun x => x.1 == nm) w) := by
  obtain ⟨hn, hnm⟩ := slice_ln hl
  have HL := Lib.hid hl
  have HB := Lib.hid hb
  have HN := Lib.hid hn
  have hgl := hb.lt
  clear hl hn hb
  go_enter Tryd.func35, Tryd.ntmps35
  go_wp2
  go_loopw [8] (fun i wr => ∃ k : Nat, k ≤ n ∧ i = .int .i64 k ∧ Hid ((l.take k).any (fun x => x.1 == nm) = false) ∧ Below w.heap.size w wr) (fun i _ => n - (intOf i).toNat)
  case atStart => exact ⟨0, Nat.zero_le _, rfl, rfl, Below.refl _ _⟩
  case round =>
    obtain ⟨k, hk, rfl, hno, hb⟩ := hrel
    have hgb := (HB.out.below hb hgl).c0
    have hwr := hb.size
    by_cases hlt : k < n
    · have hki : (k : Int) < (n : Int) := by omega
      obtain ⟨b, off, nx, x, y, z, rfl, hx, hK, -, -, -, -⟩ := sc_all HL.out (k := k) (by rw [← HN.out]; exact hlt)
      obtain ⟨k0, k1, k2, k3⟩ := hK.out _ hb
      have C := Lib.hid (scClos_any g nx nm x y z wr (HB.out.below hb hgl))
      have HX := Lib.hid hx.out
      clear hx
      by_cases he : nx = nm
      · have HP : Hid ((fun x : Sc => x.1 == nm) (nx, x, y, z) = true) := by show (nx == nm) = true; simp [he]
        rw [show (nx == nm) = true from HP.out] at C
        clear he
        go_wp2_with fail
        refine C.out.mono ?_
        rintro e w1 ⟨rfl, hb1⟩
        have hbx := bstep hb hwr hb1
        go_wp2
        go_ret
        exact ⟨k, rfl, .inr ⟨k, _, rfl, by have := HN.out; omega, HX.out, find_hit hno.out HX.out HP.out⟩, hbx⟩
      · have HP : Hid ((fun x : Sc => x.1 == nm) (nx, x, y, z) = false) := by show (nx == nm) = false; rw [str_eq]; exact decide_eq_false he
        rw [show (nx == nm) = false from HP.out] at C
        clear he
        go_wp2_with fail
        refine C.out.mono ?_
        rintro e w1 ⟨rfl, hb1⟩
        have hbx := bstep hb hwr hb1
        go_wp2
        go_roundw
        case rel => exact ⟨k + 1, by omega, by go_num, any_step hno.out HX.out HP.out, hbx⟩
        case measure => simp [intOf]; omega
    · have hki : ¬ (k : Int) < (n : Int) := by omega
      have HF : Hid (l.find? (fun x => x.1 == nm) = none) := find_miss (by
        have := hno.out
        rwa [List.take_of_length_le (by have := HN.out; omega)] at this)
      go_wp2
      go_ret
      exact ⟨-1, rfl, .inl ⟨rfl, HF.out⟩, hb⟩
end Go.Proofs.YtacbmmnipedpdaaDoor

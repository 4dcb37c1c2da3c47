/- Chapter 26: find, Index and Contains of contours, by walking their text. -/
import Derived.Test.YtcnkocnajamclaaTorW6
import Derived.Laws.StructEq
namespace Go.Proofs.Ytcnkocnajamclaa
open Go Go.RowKit

def idxC : List Pt → Pt → Int
  | [], _ => -1
  | a :: l, c => if a = c then 0 else if idxC l c < 0 then -1 else idxC l c + 1
theorem idxC_range : ∀ (l : List Pt) (c : Pt), -1 ≤ idxC l c ∧ idxC l c < l.length
  | [], c => by simp [idxC]
  | a :: l, c => by
    have := idxC_range l c
    rw [idxC]; simp only [List.length_cons]
    split
    · omega
    · split <;> omega
theorem idxC_miss : ∀ {l : List Pt} {c : Pt}, c ∉ l → idxC l c = -1
  | [], _, _ => rfl
  | a :: l, c, h => by
    have h1 : a ≠ c := fun e => h (by simp [e])
    have h2 := idxC_miss (l := l) (c := c) (fun hm => h (by simp [hm]))
    rw [idxC, if_neg h1, h2, if_pos (by omega)]
theorem idxC_hit : ∀ {l : List Pt} {c : Pt} {k : Nat}, l[k]? = some c → c ∉ l.take k → idxC l c = k
  | [], _, k, h, _ => by simp at h
  | a :: l, c, 0, h, _ => by simp at h; subst h; rw [idxC, if_pos rfl]; rfl
  | a :: l, c, k + 1, h, hn => by
    rw [List.take_succ_cons, List.mem_cons] at hn
    have h1 : a ≠ c := fun e => hn (.inl e.symm)
    have h2 := idxC_hit (l := l) (c := c) (k := k) (by simpa using h) (fun hm => hn (.inr hm))
    rw [idxC, if_neg h1, h2, if_neg (by omega)]; omega
theorem first_at {α : Type} [DecidableEq α] {x : α} : ∀ {xs : List α}, x ∈ xs → ∃ k, xs[k]? = some x ∧ x ∉ xs.take k
  | [], h => by cases h
  | y :: ys, h => by
    by_cases e : y = x
    · exact ⟨0, by rw [e]; rfl, by simp⟩
    · have h' : x ∈ ys := by
        rcases List.mem_cons.1 h with h | h
        · exact absurd h.symm e
        · exact h
      obtain ⟨k, h1, h2⟩ := first_at h'
      refine ⟨k + 1, by simpa using h1, ?_⟩
      rw [List.take_succ_cons, List.mem_cons]
      rintro (h3 | h3)
      · exact e h3.symm
      · exact h2 h3
theorem idxC_mem {l : List Pt} {c : Pt} (h : c ∈ l) : ∃ k : Nat, idxC l c = k ∧ l[k]? = some c ∧ c ∉ l.take k := by
  obtain ⟨k, h1, h2⟩ := first_at h
  exact ⟨k, idxC_hit h1 h2, h1, h2⟩
theorem idxC_contains (l : List Pt) (c : Pt) : decide (0 ≤ idxC l c) = l.contains c := by
  by_cases h : c ∈ l
  · obtain ⟨k, hk, _⟩ := idxC_mem h
    rw [hk]; simp [h]
  · rw [idxC_miss h]; simp [h]
theorem idxC_neg (l : List Pt) (c : Pt) : decide (idxC l c < 0) = !l.contains c := by
  rw [← idxC_contains, Bool.eq_iff_iff]; simp
theorem pr_ne {a b c d : Int} (h : (a, b) ≠ (c, d)) : (a == c && b == d) = false := by
  by_cases h1 : a = c
  · by_cases h2 : b = d
    · exact absurd (by rw [h1, h2]) h
    · simp [h2]
  · simp [h1]
theorem notin_one {l : List Pt} {k : Nat} {x c : Pt} (h : c ∉ l.take k) (hx : l[k]? = some x) (hne : x ≠ c) : c ∉ l.take (k + 1) := by
  rw [take_one hx]
  intro hm
  rcases List.mem_append.1 hm with hm | hm
  · exact h hm
  · simp at hm; exact hne hm.symm
theorem ct_under : Try.prog.underlying 78 = some (.struct (Try.prog.fieldsOf 78)) := by kernel_rfl
theorem ct_held : Try.prog.stoodInHeld 78 = false := by kernel_rfl
theorem ct_guard : Try.prog.eqGuardType Try.prog.depth 78 = false := by kernel_rfl
theorem ct_eql (x y x' y' : Int) (w : World) : (binOp .eql 78 (.agg #[.int .i64 x, .int .i64 y]) (.agg #[.int .i64 x', .int .i64 y'])).run Try.prog w = .ok (.bool (x == x' && y == y')) w := by
  have u3 := Try.underlying3
  have a3 := Try.isAgg3
  have z3 := Try.sizeOf3
  rw [run_eql_struct, show (10000 : Nat) = 9999 + 1 from rfl, run_equalIn_agg w 9999 78 _ _ ct_under ct_held]
  simp only [Program.fieldsOf, Try.underlying78]
  go_simp
  by_cases h1 : x = x' <;> by_cases h2 : y = y' <;> simp [h1, h2]
theorem ct_eqg (op : BinOp) (p q : Operand) (xs ys : Array Value) (w : World) : (eqGuard op 78 p q (.agg xs) (.agg ys)).run Try.prog w = .ok () w := run_eqGuard_agg w op _ p q xs ys ct_guard
set_option maxHeartbeats 800000 in
theorem indexC_any (v : Value) (l : List Pt) (x y : Int) (w : World) (hl : prR.slice.R w (Lt w) l [v]) :
    Calls Try.prog 42 #[v, .agg #[.int .i64 x, .int .i64 y]] w (Ret (.int .i64 (idxC l (x, y))) w) := by
  obtain ⟨A, c, rfl, hm, -⟩ := slice_inv hl
  have hw0 : Below w.heap.size w (w.alloc (.cells #[.int .i64 x, .int .i64 y] 78)) := (Below.refl _ _).alloc (Nat.le_refl _) _
  have b0 := Blk.new w 78 #[.int .i64 x, .int .i64 y]
  have q1 := ct_eql
  have q2 := ct_eqg
  go_enter Try.func42, Try.ntmps42
  go_wp2
  go_loopw [8] (fun i wr => ∃ k : Nat, k ≤ l.length ∧ i = .int .i64 k ∧ Hid ((x, y) ∉ l.take k) ∧ Blk wr w.heap.size 78 #[.int .i64 x, .int .i64 y] ∧ Below w.heap.size w wr) (fun i _ => l.length - (intOf i).toNat)
  case atStart => exact ⟨0, Nat.zero_le _, rfl, by show (x, y) ∉ l.take 0; simp, b0, hw0⟩
  case round =>
    obtain ⟨k, hk, rfl, hno, hblk, hb⟩ := hrel
    have k0 := hblk.c20
    have k1 := hblk.c21
    by_cases hlt : k < l.length
    · obtain ⟨b, off, p, q, rfl, hx, -, c0, c1, -⟩ := pairs_at (Rep.at_ hl hb) hlt
      by_cases he : (p, q) = (x, y)
      · injection he with e1 e2
        subst e1 e2
        have HE := Lib.hid (idxC_hit hx.out hno.out)
        have e3 : (p == p && q == q) = true := by simp
        go_wp2
        go_quiet (fail)
        go_wp2
        go_ret
        exact ⟨ret_int HE.out.symm, below_drewN hb _⟩
      · have HE := Lib.hid (notin_one hno.out hx.out he)
        have e3 := pr_ne (fun e => he e.symm)
        clear he
        go_wp2
        go_quiet (fail)
        go_wp2
        go_roundw
        case rel => exact ⟨k + 1, by omega, by go_num, HE.out, hblk, below_drewN hb _⟩
        case measure => simp [intOf]; omega
    · go_wp2
      go_ret
      have h := hno.out
      rw [List.take_of_length_le (by omega)] at h
      exact ⟨ret_int (idxC_miss h).symm, hb⟩

set_option maxHeartbeats 400000 in
theorem containsC_any (v : Value) (l : List Pt) (x y : Int) (w : World) (hl : prR.slice.R w (Lt w) l [v]) :
    Calls Try.prog 73 #[v, .agg #[.int .i64 x, .int .i64 y]] w (Ret (.bool (l.contains (x, y))) w) := by
  have hw0 : Below w.heap.size w (w.alloc (.cells #[.int .i64 x, .int .i64 y] 78)) := (Below.refl _ _).alloc (Nat.le_refl _) _
  go_enter Try.func73, Try.ntmps73
  go_wp2_with fail
  refine (indexC_any v l x y _ (Rep.below hl hw0)).mono ?_
  rintro e w1 ⟨rfl, hb⟩
  go_wp2
  go_ret
  exact ⟨ret_bool (idxC_contains l (x, y)), bstep hw0 hw0.size hb⟩
end Go.Proofs.Ytcnkocnajamclaa

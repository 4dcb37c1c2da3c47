/- Chapter 33: mirroring and swapping, in plain Lean. -/
import Derived.Test.YtlhkidiieajamaaDistPlain
namespace Go.Proofs.Ytlhkidiieajamaa

theorem fromB_iff0 {n lo hi : Int} : fromB n lo hi = true ↔ lo ≤ n ∧ n ≤ hi := by unfold fromB; exact decide_eq_true_iff
def mirB (b : Bead) : Bead := ⟨-b.pos, b.shr⟩
def mirror (l : List Bead) : List Bead := l.map mirB
theorem mirror_getD (l : List Bead) (i : Nat) : (mirror l).getD i default = mirB (l.getD i default) := by
  unfold mirror
  rw [List.getD_eq_getElem?_getD, List.getElem?_map, List.getD_eq_getElem?_getD]
  cases l[i]? <;> rfl
theorem mirror_length (l : List Bead) : (mirror l).length = l.length := by simp [mirror]
theorem okBead_mir (b : Bead) : okBead (mirB b) = okBead b := by
  rw [Bool.eq_iff_iff]; simp only [okBead, mirB, Bool.and_eq_true, fromB_iff0]; constructor <;> (rintro ⟨⟨h1, h2⟩, h3⟩; exact ⟨⟨by omega, by omega⟩, h3⟩)
theorem checkF_mir (l : List Bead) (r s : Int) : checkF (mirror l) r s = checkF l r s := by
  unfold checkF
  rw [mirror_length]
  have : (mirror l).all okBead = l.all okBead := by
    unfold mirror; rw [List.all_map]; congr 1; funext b; exact okBead_mir b
  rw [this]
theorem nearB_mir (l : List Bead) (r : Int) (i k : Nat) : nearB (mirror l) r i k = nearB l r i k := by
  unfold nearB
  rw [mirror_getD, mirror_getD, Bool.eq_iff_iff]
  simp only [mirB, fromB_iff0]; constructor <;> (rintro ⟨h1, h2⟩; exact ⟨by omega, by omega⟩)
theorem shrinkOf_mir (l : List Bead) (r s : Int) (i : Nat) (done : List Int) : shrinkOf (mirror l) r s i done = shrinkOf l r s i done := by
  unfold shrinkOf nearN
  rw [mirror_getD]
  have : (fun k : Int => nearB (mirror l) r i k.toNat) = fun k => nearB l r i k.toNat := by funext k; exact nearB_mir l r i _
  rw [this]; rfl
theorem runTo_mir (l : List Bead) (r s : Int) (order : List Int) (k : Nat) : runTo (mirror l) r s order k = runTo l r s order k := by
  induction k with
  | zero => simp [runTo, mirror_length]
  | succ k ih => rw [runTo, runTo, ih, shrinkOf_mir]
theorem runF_mir (l : List Bead) (r s : Int) (order : List Int) : runF (mirror l) r s order = runF l r s order := by
  unfold runF
  rw [checkF_mir, mirror_length, runTo_mir]
theorem low_mir (l : List Bead) (k : Nat) : lowTo (mirror l) k = -highTo l k ∧ highTo (mirror l) k = -lowTo l k := by
  induction k with
  | zero => simp only [lowTo, highTo, mirror_getD, mirB]; exact ⟨trivial, trivial⟩
  | succ k ih => simp only [lowTo, highTo, mirror_getD, mirB, ih.1, ih.2]; omega
theorem unevStep_mir (mid twice x s : Int) : unevStep (-mid) (-twice) x (-s) = -unevStep mid twice x s := by
  unfold unevStep
  split <;> split <;> (try split) <;> (try split) <;> omega
theorem unevTo_mir (l : List Bead) (mid : Int) (sh order : List Int) (k : Nat) : unevTo (mirror l) (-mid) sh order k = (-(unevTo l mid sh order k).1, (unevTo l mid sh order k).2) := by
  induction k with
  | zero => simp [unevTo]
  | succ k ih =>
    simp only [unevTo, ih, mirror_getD]
    have e : 2 * (mirB (l.getD (order.getD k 0).toNat default)).pos = -(2 * (l.getD (order.getD k 0).toNat default).pos) := by simp only [mirB]; omega
    rw [e, unevStep_mir]
    refine Prod.ext rfl ?_
    simp only
    omega
theorem unevF_mir (l : List Bead) (r s : Int) (order : List Int) : unevF (mirror l) r s order = unevF l r s order := by
  unfold unevF
  rw [runF_mir, mirror_length, (low_mir l l.length).1, (low_mir l l.length).2]
  have : -highTo l l.length + -lowTo l l.length = -(lowTo l l.length + highTo l l.length) := by omega
  rw [this, unevTo_mir]

/-! ### swapping -/
theorem nearN_perm {l : List Bead} {r : Int} {i : Nat} {a b : List Int} (h : a.Perm b) : nearN l r i a = nearN l r i b := (h.filter _).length_eq
theorem orderB_perm {a b : List Int} {n : Nat} (h : a.Perm b) : orderB a n = orderB b n := by
  unfold orderB goodB
  rw [List.take_length, List.take_length, h.length_eq]
  congr 1
  apply decide_eq_decide.2
  constructor
  · rintro ⟨h1, h2⟩; exact ⟨fun i hi => h1 i (h.mem_iff.2 hi), h.nodup_iff.1 h2⟩
  · rintro ⟨h1, h2⟩; exact ⟨fun i hi => h1 i (h.mem_iff.1 hi), h.nodup_iff.2 h2⟩
theorem runTo_split {l : List Bead} {r s : Int} {P S : List Int} {i : Int} (ho : orderB (P ++ i :: S) l.length = true) :
    (runTo l r s (P ++ i :: S) (P ++ i :: S).length).getD i.toNat 0 = shrinkOf l r s i.toNat P := by
  have hl := (orderB_yes ho).1
  have h := runTo_at (r := r) (s := s) ho (P ++ i :: S).length (by omega) P.length (by simp)
  have e : (P ++ i :: S).getD P.length 0 = i := by rw [List.getD_eq_getElem?_getD]; simp
  rw [e, List.take_left'] at h
  · exact h
  · rfl
theorem runF_swap {l : List Bead} {r s : Int} {A B : List Int} {x y : Int} (hz : (runF l r s (A ++ x :: y :: B)).2 = 0)
    (hxy : nearB l r x.toNat y.toNat = false) (hyx : nearB l r y.toNat x.toNat = false) : runF l r s (A ++ y :: x :: B) = runF l r s (A ++ x :: y :: B) := by
  obtain ⟨hC, hO, hR⟩ := runF_zero hz
  have hp : (A ++ y :: x :: B).Perm (A ++ x :: y :: B) := List.Perm.append_left A (List.Perm.swap x y B)
  have hO' : orderB (A ++ y :: x :: B) l.length = true := by rw [orderB_perm hp]; exact hO
  rw [runF_yes hC hO', runF_yes hC hO]
  refine Prod.ext ?_ rfl
  simp only
  apply List.ext_getElem
  · rw [runTo_length, runTo_length]
  · intro i h1 h2
    have hi : i < l.length := by rw [runTo_length] at h1; exact h1
    have hmem := nodup_all l.length _ (orderB_yes hO).2.2 (orderB_yes hO).2.1 (orderB_yes hO).1 i hi
    have key : (runTo l r s (A ++ y :: x :: B) (A ++ y :: x :: B).length).getD ((i : Int).toNat) 0 = (runTo l r s (A ++ x :: y :: B) (A ++ x :: y :: B).length).getD ((i : Int).toNat) 0 := by
      generalize hj : (i : Int) = j at *
      rcases List.mem_append.1 hmem with hA | hB
      · obtain ⟨A1, A2, rfl⟩ := List.append_of_mem hA
        have e1 : A1 ++ j :: A2 ++ y :: x :: B = A1 ++ j :: (A2 ++ y :: x :: B) := by simp
        have e2 : A1 ++ j :: A2 ++ x :: y :: B = A1 ++ j :: (A2 ++ x :: y :: B) := by simp
        rw [e1] at hO' ⊢
        rw [e2] at hO ⊢
        rw [runTo_split hO', runTo_split hO]
      · rcases List.mem_cons.1 hB with rfl | hB
        · have e1 : A ++ y :: j :: B = (A ++ [y]) ++ j :: B := by simp
          rw [e1] at hO' ⊢
          rw [runTo_split hO', runTo_split hO]
          unfold shrinkOf; rw [nearN_snoc, hxy]; simp
        · rcases List.mem_cons.1 hB with rfl | hB
          · have e2 : A ++ x :: j :: B = (A ++ [x]) ++ j :: B := by simp
            rw [e2] at hO ⊢
            rw [runTo_split hO', runTo_split hO]
            unfold shrinkOf; rw [nearN_snoc, hyx]; simp
          · obtain ⟨B1, B2, rfl⟩ := List.append_of_mem hB
            have e1 : A ++ y :: x :: (B1 ++ j :: B2) = (A ++ y :: x :: B1) ++ j :: B2 := by simp
            have e2 : A ++ x :: y :: (B1 ++ j :: B2) = (A ++ x :: y :: B1) ++ j :: B2 := by simp
            rw [e1] at hO' ⊢
            rw [e2] at hO ⊢
            rw [runTo_split hO', runTo_split hO]
            unfold shrinkOf
            rw [nearN_perm (List.Perm.append_left A (List.Perm.swap x y B1))]
    rw [Int.toNat_natCast, List.getD_eq_getElem?_getD, List.getD_eq_getElem?_getD, List.getElem?_eq_getElem h1, List.getElem?_eq_getElem h2] at key
    exact key
end Go.Proofs.Ytlhkidiieajamaa

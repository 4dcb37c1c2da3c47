/- Chapter 15: arguments of the laws, opened. -/
import Derived.Test.YtacbmmnipedpdaaDoorMatBase
import Derived.Test.YtacbmmnipedpdaaDoorOpenZ
import Derived.IntWalk
namespace Go.Proofs.YtacbmmnipedpdaaDoor
open Go Go.RowKit Go.ChangeShapes

theorem opens_i15 : Opens Tryd.prog 3 Rep.int := opens_int Tryd.underlying3
theorem opens_is15 : Opens Tryd.prog 30 Rep.int.slice := opens_slice Tryd.underlying30 (by kernel_rfl) (by decide) opens_i15
theorem opens_txt : Opens Tryd.prog 9 Rep.txt := opens_iso (fun s : ByteArray => s.data.toList) bA_of (opens_str Tryd.underlying9)
theorem opens_gr : Opens Tryd.prog 32 grR := opens_struct Tryd.underlying32 (tot := 4) (by kernel_rfl) (opensF_cons rfl (by kernel_rfl) opens_txt (opensF_cons rfl (by kernel_rfl) opens_i15 (opensF_cons rfl (by kernel_rfl) opens_i15 (opensF_last rfl (by kernel_rfl) opens_is15))))
theorem opens_sc : Opens Tryd.prog 36 scR := opens_struct Tryd.underlying36 (tot := 4) (by kernel_rfl) (opensF_cons rfl (by kernel_rfl) opens_txt (opensF_cons rfl (by kernel_rfl) opens_i15 (opensF_cons rfl (by kernel_rfl) opens_i15 (opensF_last rfl (by kernel_rfl) opens_i15))))
theorem opens_grs : Opens Tryd.prog 22 grR.slice := opens_slice Tryd.underlying22 (by kernel_rfl) (by decide) opens_gr
theorem opens_scs : Opens Tryd.prog 23 scR.slice := opens_slice Tryd.underlying23 (by kernel_rfl) (by decide) opens_sc
theorem opens_mat : Opens Tryd.prog 25 matR := opens_struct Tryd.underlying25 (tot := 2) (by kernel_rfl) (opensF_cons rfl (by kernel_rfl) opens_grs (opensF_last rfl (by kernel_rfl) opens_scs))
theorem opensZ_mat : OpensZ Tryd.prog 25 matR (fun _ => True) := opensZ_of opens_mat
theorem opensZ_i15 : OpensZ Tryd.prog 3 Rep.int (fun _ => True) := opensZ_of opens_i15
def StrM (s : ByteArray) : Prop := s.size ≤ 140737488351232
theorem opensZ_s15 : OpensZ Tryd.prog 9 Rep.str StrM := opensZ_str Tryd.underlying9
def Rep.u8i : Rep Int where
  size := 1
  R _ _ n cs := cs = [.int .u8 n] ∧ 0 ≤ n ∧ n ≤ 255
  len := by rintro _ _ _ _ ⟨rfl, _⟩; rfl
  mono _ h := h
  keep _ h := h
theorem opens_u8m : Opens Tryd.prog 5 Rep.u8i := by
  intro H enc W sp held fuel cs x h
  obtain ⟨n, rfl, _, hw⟩ := DataW.trod_int Tryd.underlying5 h
  have := bounds_u8 hw
  exact ⟨n, rfl, by omega⟩
theorem opensZ_u8m : OpensZ Tryd.prog 5 Rep.u8i (fun _ => True) := opensZ_of opens_u8m
end Go.Proofs.YtacbmmnipedpdaaDoor

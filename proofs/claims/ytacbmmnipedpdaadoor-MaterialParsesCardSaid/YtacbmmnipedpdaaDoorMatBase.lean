/- Chapter 15: readings of names, grades, sections and catalogs. -/
import Derived.Test.YtacbmmnipedpdaaDoorMatPlain
import Derived.Test.YtacbmmnipedpdaaDoorAppend
namespace Go.Proofs.YtacbmmnipedpdaaDoor
open Go Go.RowKit

abbrev bA (l : List UInt8) : ByteArray := ⟨l.toArray⟩
def Rep.txt : Rep (List UInt8) := Rep.str.iso (fun l : List UInt8 => bA l)
def grR : Rep Gr := Rep.txt.pair (Rep.int.pair (Rep.int.pair Rep.int.slice))
def scR : Rep Sc := Rep.txt.pair (Rep.int.pair (Rep.int.pair Rep.int))
def matR : Rep Mat := grR.slice.pair scR.slice
def scEnc (s : Sc) : List Value := [.string (bA s.1), .int .i64 s.2.1, .int .i64 s.2.2.1, .int .i64 s.2.2.2]
/-- grade k of a list of grades. -/
theorem gr_at {w : World} {D : Nat → Prop} {l : List Gr} {A : Option Addr} {n c : Nat} (h : grR.slice.R w D l [.slice A n c]) {k : Nat} (hk : k < l.length) :
    ∃ b off nm d y ts G ng cg, A = some ⟨b, off, none⟩ ∧ Hid (l[k]? = some (nm, d, y, ts)) ∧ D b ∧ w.cell? ⟨b, off + k * 4, none⟩ = some (.string (bA nm)) ∧ w.cell? ⟨b, off + k * 4 + 1, none⟩ = some (.int .i64 d) ∧ w.cell? ⟨b, off + k * 4 + 2, none⟩ = some (.int .i64 y) ∧ w.cell? ⟨b, off + k * 4 + 3, none⟩ = some (.slice G ng cg) ∧
      Hid (ng = ts.length) ∧ Rep.int.slice.R w D ts [.slice G ng cg] ∧ nm.length ≤ 9223372036854775807 ∧ inI64 d ∧ inI64 y ∧ ng ≤ 9223372036854775807 := by
  obtain ⟨A', c', e, _, _, h3⟩ := h
  injection e with e _
  injection e with e1 e2 e3
  subst e1
  obtain ⟨b, off, es, rfl, hb, ⟨c1, c2, rfl, ⟨rfl, hs⟩, ⟨c3, c4, rfl, ⟨rfl, hd⟩, ⟨c5, c6, rfl, ⟨rfl, hy⟩, hG⟩⟩⟩, hc⟩ := h3 k hk
  obtain ⟨G, cg, rfl, h1, h2, h4⟩ := id hG
  unfold maxLen at h2 hs
  have hs' : (l[k]).1.length ≤ 9223372036854775807 := by simpa [bA, ByteArray.size] using hs
  exact ⟨b, off, _, _, _, _, G, _, cg, rfl, List.getElem?_eq_getElem hk, hb, hc 0 (by decide), hc 1 (by decide), hc 2 (by decide), hc 3 (by decide), rfl, hG, hs', hd, hy, by omega⟩
/-- section k of a list of sections. -/
theorem sc_at {w : World} {D : Nat → Prop} {l : List Sc} {A : Option Addr} {n c : Nat} (h : scR.slice.R w D l [.slice A n c]) {k : Nat} (hk : k < l.length) :
    ∃ b off nm x y z, A = some ⟨b, off, none⟩ ∧ Hid (l[k]? = some (nm, x, y, z)) ∧ D b ∧ w.cell? ⟨b, off + k * 4, none⟩ = some (.string (bA nm)) ∧ w.cell? ⟨b, off + k * 4 + 1, none⟩ = some (.int .i64 x) ∧ w.cell? ⟨b, off + k * 4 + 2, none⟩ = some (.int .i64 y) ∧ w.cell? ⟨b, off + k * 4 + 3, none⟩ = some (.int .i64 z) ∧
      nm.length ≤ 9223372036854775807 ∧ inI64 x ∧ inI64 y ∧ inI64 z := by
  obtain ⟨A', c', e, _, _, h3⟩ := h
  injection e with e _
  injection e with e1 e2 e3
  subst e1
  obtain ⟨b, off, es, rfl, hb, ⟨c1, c2, rfl, ⟨rfl, hs⟩, ⟨c3, c4, rfl, ⟨rfl, hd⟩, ⟨c5, c6, rfl, ⟨rfl, hy⟩, ⟨rfl, hz⟩⟩⟩⟩, hc⟩ := h3 k hk
  unfold maxLen at hs
  have hs' : (l[k]).1.length ≤ 9223372036854775807 := by simpa [bA, ByteArray.size] using hs
  exact ⟨b, off, _, _, _, _, rfl, List.getElem?_eq_getElem hk, hb, hc 0 (by decide), hc 1 (by decide), hc 2 (by decide), hc 3 (by decide), hs', hd, hy, hz⟩
theorem slice_ln {α : Type} {E : Rep α} {w : World} {D : Nat → Prop} {l : List α} {A : Option Addr} {n c : Nat} (h : E.slice.R w D l [.slice A n c]) : n = l.length ∧ n ≤ 9223372036854775807 := by
  obtain ⟨_, _, e, h1, h2, _⟩ := h
  injection e with e _
  injection e with _ e1 e2
  unfold maxLen at h2
  exact ⟨e1, by omega⟩
/-- a catalog's two cells. -/
theorem mat_inv {w : World} {D : Nat → Prop} {m : Mat} {cs : Array Value} (h : matR.R w D m cs.toList) :
    ∃ A c B d, cs = #[.slice A m.1.length c, .slice B m.2.length d] ∧ grR.slice.R w D m.1 [.slice A m.1.length c] ∧ scR.slice.R w D m.2 [.slice B m.2.length d] ∧ m.1.length ≤ 9223372036854775807 ∧ m.2.length ≤ 9223372036854775807 := by
  obtain ⟨a, b, e, h1, h2⟩ := h
  obtain ⟨A, c, rfl, h3, h4, h5⟩ := id h1
  obtain ⟨B, d, rfl, h6, h7, h8⟩ := id h2
  unfold maxLen at h4 h7
  refine ⟨A, c, B, d, ?_, h1, h2, by omega, by omega⟩
  apply Array.ext'
  simpa using e
theorem mat_mk {w : World} {D : Nat → Prop} {m : Mat} {v u : Value} (h1 : grR.slice.R w D m.1 [v]) (h2 : scR.slice.R w D m.2 [u]) : matR.R w D m [v, u] := ⟨_, _, rfl, h1, h2⟩
theorem bA_list (l : List UInt8) : (bA l).data.toList = l := rfl
theorem bA_size (l : List UInt8) : (bA l).size = l.length := by simp [ByteArray.size]
theorem bA_of (s : ByteArray) : bA s.data.toList = s := by
  cases s; rfl
end Go.Proofs.YtacbmmnipedpdaaDoor

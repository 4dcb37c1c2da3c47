/- Chapter 15: catalogs, their texts and how they are read, in plain words: no program in sight. -/
import Derived.Test.YtacbmmnipedpdaaDoorLexWord
import Derived.Test.YtacbmmnipedpdaaDoorLexW8
namespace Go.Proofs.YtacbmmnipedpdaaDoor
open Go

abbrev Gr := List UInt8 × Int × Int × List Int
abbrev Sc := List UInt8 × Int × Int × Int
abbrev Mat := List Gr × List Sc
/-- whether a text is a name. -/
def isNameF : List UInt8 → Bool
  | [] => false
  | c :: t => decide (t.length + 1 ≤ 16) && (lxLet c && t.all wdB)
def inB (n lo hi : Int) : Bool := decide (lo ≤ n) && decide (n ≤ hi)
/-- whether a gauge is not above the one before. -/
def lowG (p : Option Int) (t : Int) : Bool := match p with
  | some q => decide (t ≤ q)
  | none => false
def gaugeF : Option Int → List Int → Int
  | _, [] => 0
  | p, t :: r => if inB t 1 120 = false then 9 else if lowG p t = true then 11 else gaugeF (some t) r
def gradeE (g : Gr) : Int :=
  if isNameF g.1 = false then 6 else if inB g.2.1 1000 20000 = false ∨ inB g.2.2.1 100 1500 = false then 9 else if g.2.2.2.length = 0 then 3 else if 16 < g.2.2.2.length then 4 else gaugeF none g.2.2.2
def sectE (s : Sc) : Int :=
  if isNameF s.1 = false then 6 else if inB s.2.1 1 1000000 = false ∨ inB s.2.2.1 1 2000 = false ∨ inB s.2.2.2 100 32768 = false then 9 else 0
/-- whether a name does not stand behind the one before. -/
def backB (p : Option (List UInt8)) (n : List UInt8) : Bool := match p with
  | some q => !decide (q < n)
  | none => false
def listF {α : Type} (E : α → Int) (nm : α → List UInt8) : Option (List UInt8) → List α → Int
  | _, [] => 0
  | p, g :: r => if E g ≠ 0 then E g else if backB p (nm g) = true then 11 else listF E nm (some (nm g)) r
def gradesF : List Gr → Int := listF gradeE (·.1) none
def sectsF : List Sc → Int := listF sectE (·.1) none
def checkM (m : Mat) : Int := if 16 < m.1.length ∨ 32 < m.2.length then 4 else if gradesF m.1 ≠ 0 then gradesF m.1 else sectsF m.2
/-! the text -/
def tGrade : List UInt8 := [103, 114, 97, 100, 101]
def tDensity : List UInt8 := [100, 101, 110, 115, 105, 116, 121]
def tYield : List UInt8 := [121, 105, 101, 108, 100]
def tGauges : List UInt8 := [103, 97, 117, 103, 101, 115]
def tSection : List UInt8 := [115, 101, 99, 116, 105, 111, 110]
def tArea : List UInt8 := [97, 114, 101, 97]
def tHeight : List UInt8 := [104, 101, 105, 103, 104, 116]
def tStock : List UInt8 := [115, 116, 111, 99, 107]
def gaugesT (l : List Int) : List UInt8 := l.flatMap fun t => 32 :: Lib.itoa t
def gradeT (g : Gr) : List UInt8 := tGrade ++ [32] ++ g.1 ++ [32] ++ tDensity ++ [32] ++ Lib.itoa g.2.1 ++ [32] ++ tYield ++ [32] ++ Lib.itoa g.2.2.1 ++ [32] ++ tGauges ++ gaugesT g.2.2.2 ++ [59, 10]
def sectT (s : Sc) : List UInt8 := tSection ++ [32] ++ s.1 ++ [32] ++ tArea ++ [32] ++ Lib.itoa s.2.1 ++ [32] ++ tHeight ++ [32] ++ Lib.itoa s.2.2.1 ++ [32] ++ tStock ++ [32] ++ Lib.itoa s.2.2.2 ++ [59, 10]
def textM (m : Mat) : List UInt8 := m.1.flatMap gradeT ++ m.2.flatMap sectT
def formatM (m : Mat) : List UInt8 × Int := if checkM m ≠ 0 then ([], checkM m) else (textM m, 0)
/-! reading: a place among lexemes, and whether one did not stand where it can stand. -/
abbrev Rd := Nat × Bool
def lxN (l : List Lx) (i : Nat) : Lx := l.getD i (0, [], 0, 0)
def fitB (x : Lx) (kind : Int) (t : List UInt8) : Bool := decide (x.1 = kind) && (decide (t = []) || decide (x.2.1 = t))
def takeR (L : List Lx) (x : Rd) (kind : Int) (t : List UInt8) : Lx × Rd := if x.2 = true ∨ fitB (lxN L x.1) kind t = false then ((0, [], 0, 0), (x.1, true)) else (lxN L x.1, (x.1 + 1, false))
def numR (L : List Lx) (x : Rd) (t : List UInt8) : Int × Rd := ((takeR L (takeR L x 1 t).2 2 []).1.2.2.1, (takeR L (takeR L x 1 t).2 2 []).2)
def gaugesR (L : List Lx) : Nat → Rd → List Int → List Int × Rd
  | 0, x, acc => (acc, x)
  | f + 1, x, acc => if x.2 = true ∨ fitB (lxN L x.1) 2 [] = false then (acc, x) else gaugesR L f (x.1 + 1, false) (acc ++ [(lxN L x.1).2.2.1])
/-- a grade, behind its first word. -/
def gradeR (L : List Lx) (x : Rd) : Gr × Rd :=
  let a := takeR L x 1 []
  let b := numR L a.2 tDensity
  let c := numR L b.2 tYield
  let d := numR L c.2 tGauges
  let e := gaugesR L L.length d.2 [d.1]
  ((a.1.2.1, b.1, c.1, e.1), (takeR L e.2 4 [59]).2)
def sectR (L : List Lx) (x : Rd) : Sc × Rd :=
  let a := takeR L x 1 []
  let b := numR L a.2 tArea
  let c := numR L b.2 tHeight
  let d := numR L c.2 tStock
  ((a.1.2.1, b.1, c.1, d.1), (takeR L d.2 4 [59]).2)
def manyR {α : Type} (L : List Lx) (word : List UInt8) (one : List Lx → Rd → α × Rd) : Nat → Rd → List α → List α × Rd
  | 0, x, acc => (acc, x)
  | f + 1, x, acc => if x.2 = true ∨ fitB (lxN L x.1) 1 word = false then (acc, x) else manyR L word one f (one L (x.1 + 1, false)).2 (acc ++ [(one L (x.1 + 1, false)).1])
def readM (L : List Lx) : Mat × Rd :=
  let a := manyR L tGrade gradeR L.length (0, false) []
  let b := manyR L tSection sectR L.length a.2 []
  ((a.1, b.1), b.2)
def parseM (D : List UInt8) : Mat × Int × Int :=
  if (scanS D).2.1 ≠ 0 then (([], []), (scanS D).2.1, (scanS D).2.2)
  else if (readM (scanS D).1).2.2 = true ∨ fitB (lxN (scanS D).1 (readM (scanS D).1).2.1) 0 [] = false then (([], []), 5, (lxN (scanS D).1 (readM (scanS D).1).2.1).2.2.2)
  else if checkM (readM (scanS D).1).1 ≠ 0 then (([], []), checkM (readM (scanS D).1).1, 0)
  else ((readM (scanS D).1).1, 0, 0)
/-! what the laws look for -/
def fewM (m : Mat) : Bool := decide (m.1.length ≤ 40) && decide (m.2.length ≤ 40) && m.1.all (fun g => decide (g.2.2.2.length ≤ 30) && decide (g.1.length ≤ 40)) && m.2.all (fun s => decide (s.1.length ≤ 40))
def grF (m : Mat) (n : List UInt8) : Gr × Bool := match m.1.find? (fun g => g.1 == n) with
  | some g => (g, true)
  | none => (([], 0, 0, []), false)
def scF (m : Mat) (n : List UInt8) : Sc × Bool := match m.2.find? (fun g => g.1 == n) with
  | some g => (g, true)
  | none => (([], 0, 0, 0), false)
def rolledF (m : Mat) (n : List UInt8) (t : Int) : Bool := (grF m n).2 && (grF m n).1.2.2.2.contains t
end Go.Proofs.YtacbmmnipedpdaaDoor

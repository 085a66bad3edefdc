/- Properties, plain: their kinds and places, their values, rows of them, read and laid. -/
import Derived.Test.YtpodhidabhnnnaaDoorGet
import Derived.Test.YtpodhidabhnnnaaDoorVarLaws
import Derived.Test.YtpodhidabhnnnaaDoorKindL
namespace Go.Proofs.YtpodhidabhnnnaaDoor
open Go.RowKit

/-- A property. -/
structure Pr where
  id : Int
  num : Int
  text : List UInt8
  pair : List UInt8
  data : List UInt8
deriving DecidableEq
def zeroP : Pr := ⟨0, 0, [], [], []⟩

/-- The code that refuses a property's number, or 0. -/
def numL (p : Pr) : Nat :=
  if kindL p.id = 1 ∧ 1 < p.num then 130
  else if (p.id = 11 ∨ p.id = 33 ∨ p.id = 39) ∧ p.num = 0 then 130
  else if p.id = 35 ∧ p.num = 0 then 148
  else 0
/-- A value at the head of bytes, and how many it takes. -/
def valueL (id : Int) (b : List UInt8) : Option (Pr × Int) :=
  if kindL id = 1 then (if b.length < 1 then none else some (⟨id, getU (b.take 1), [], [], []⟩, 1))
  else if kindL id = 2 then (if b.length < 2 then none else some (⟨id, getU (b.take 2), [], [], []⟩, 2))
  else if kindL id = 3 then (if b.length < 4 then none else some (⟨id, getU (b.take 4), [], [], []⟩, 4))
  else if kindL id = 4 then (if (gvL b).2.2 = 0 then some (⟨id, (gvL b).1, [], [], []⟩, (gvL b).2.1) else none)
  else if kindL id = 5 then (if (getTextL b).2.2 = 0 then some (⟨id, 0, (getTextL b).1, [], []⟩, (getTextL b).2.1) else none)
  else if kindL id = 6 then (if (getDataL b).2.2 = 0 then some (⟨id, 0, [], [], (getDataL b).1⟩, (getDataL b).2.1) else none)
  else if kindL id = 7 then (if (getTextL b).2.2 = 0 then (if (getTextL (b.drop (getTextL b).2.1.toNat)).2.2 = 0 then some (⟨id, 0, (getTextL b).1, (getTextL (b.drop (getTextL b).2.1.toNat)).1, []⟩, (getTextL b).2.1 + (getTextL (b.drop (getTextL b).2.1.toNat)).2.1) else none) else none)
  else some (⟨id, 0, [], [], []⟩, 0)
def hasL (id : Int) (l : List Pr) : Bool := l.any fun p => decide (p.id = id)
/-- One property behind others: the code, the property, how many bytes. -/
def stepL (wh : Int) (l : List Pr) (b : List UInt8) : Nat × Pr × Int :=
  if (gvL b).2.2 ≠ 0 ∨ mayL (gvL b).1 wh = false then (129, zeroP, 0)
  else match valueL (gvL b).1 (b.drop (gvL b).2.1) with
    | none => (129, zeroP, 0)
    | some (p, m) => if hasL (gvL b).1 l = true ∧ oftenL (gvL b).1 wh = false then (130, zeroP, 0) else if numL p ≠ 0 then (numL p, zeroP, 0) else (0, p, (gvL b).2.1 + m)
def readF : Nat → Int → List Pr → List UInt8 → List Pr × Nat
  | 0, _, l, _ => (l, 0)
  | f + 1, wh, l, b => if b = [] then (l, 0) else if (stepL wh l b).1 ≠ 0 then ([], (stepL wh l b).1) else readF f wh (l ++ [(stepL wh l b).2.1]) (b.drop (stepL wh l b).2.2.toNat)
/-- What bytes say as properties: the row, how many bytes, the code. -/
def readL (wh : Int) (b : List UInt8) : List Pr × Int × Nat :=
  if (gvL b).2.2 ≠ 0 ∨ b.length < (gvL b).1 + (gvL b).2.1 then ([], 0, 129)
  else if (readF (gvL b).1 wh [] ((b.drop (gvL b).2.1).take (gvL b).1)).2 ≠ 0 then ([], 0, (readF (gvL b).1 wh [] ((b.drop (gvL b).2.1).take (gvL b).1)).2)
  else ((readF (gvL b).1 wh [] ((b.drop (gvL b).2.1).take (gvL b).1)).1, (gvL b).2.1 + (gvL b).1, 0)

/-- A number as one of 64 bits. -/
def u64 (n : Int) : Nat := (n % 18446744073709551616).toNat
/-- A property's bytes, as far as it has some. -/
def laidL (p : Pr) : List UInt8 :=
  (varR p.id).1 ++
  (if kindL p.id = 1 then putW (u64 p.num) 1
   else if kindL p.id = 2 then putW (u64 p.num) 2
   else if kindL p.id = 3 then putW (u64 p.num) 4
   else if kindL p.id = 4 then (varR p.num).1
   else if kindL p.id = 5 then (textL p.text).1
   else if kindL p.id = 6 then (dataL p.data).1
   else if kindL p.id = 7 then (textL p.text).1 ++ (textL p.pair).1
   else [])
/-- Properties laid, and the code. -/
def layL (wh : Int) (l : List Pr) : List UInt8 × Nat :=
  if (varR ((l.flatMap laidL).length : Int)).2 ≠ 0 then ([], 129)
  else if (readL wh ((varR ((l.flatMap laidL).length : Int)).1 ++ l.flatMap laidL)) = (l, (((varR ((l.flatMap laidL).length : Int)).1 ++ l.flatMap laidL).length : Int), 0) then ((varR ((l.flatMap laidL).length : Int)).1 ++ l.flatMap laidL, 0)
  else ([], 129)

example : layL 3 [⟨1, 1, [], [], []⟩] = ([2, 1, 1], 0) := by decide +kernel
example : readL 3 [3, 35, 0, 0] = ([], 0, 148) := by decide +kernel
end Go.Proofs.YtpodhidabhnnnaaDoor

/- Kinds and places of properties, plain. -/
import Derived.Test.YtpodhidabhnnnaaDoorBase
namespace Go.Proofs.YtpodhidabhnnnaaDoor
open Go.RowKit

/-- The kind of an id's value. -/
def kindL (id : Int) : Nat :=
  if id = 1 ∨ id = 23 ∨ id = 25 ∨ id = 36 ∨ id = 37 ∨ id = 40 ∨ id = 41 ∨ id = 42 then 1
  else if id = 19 ∨ id = 33 ∨ id = 34 ∨ id = 35 then 2
  else if id = 2 ∨ id = 17 ∨ id = 24 ∨ id = 39 then 3
  else if id = 11 then 4
  else if id = 3 ∨ id = 8 ∨ id = 18 ∨ id = 21 ∨ id = 26 ∨ id = 28 ∨ id = 31 then 5
  else if id = 9 ∨ id = 22 then 6
  else if id = 38 then 7
  else 0
/-- Which places an id has: a class. -/
def clsL (id : Int) : Nat :=
  if id = 1 ∨ id = 2 ∨ id = 3 ∨ id = 8 ∨ id = 9 then 1
  else if id = 11 then 2
  else if id = 17 then 3
  else if id = 18 ∨ id = 19 ∨ id = 26 ∨ id = 36 ∨ id = 37 ∨ id = 40 ∨ id = 41 ∨ id = 42 then 4
  else if id = 21 ∨ id = 22 then 5
  else if id = 23 ∨ id = 25 then 6
  else if id = 24 then 7
  else if id = 28 then 8
  else if id = 31 then 9
  else if id = 33 ∨ id = 34 ∨ id = 39 then 10
  else if id = 35 then 11
  else if id = 38 then 12
  else 0
def plC : Nat → Int
  | 1 => 65544 | 2 => 264 | 3 => 16390 | 4 => 4 | 5 => 32774 | 6 => 2 | 7 => 65536 | 8 => 16388 | 9 => 51956 | 10 => 6 | 11 => 8 | 12 => -12290 | _ => 0
def maC : Nat → List Int
  | 1 => [3, 16] | 2 => [3, 8] | 3 => [1, 2, 14] | 4 => [2] | 5 => [1, 2, 15] | 6 => [1] | 7 => [16] | 8 => [2, 14] | 9 => [2, 4, 5, 6, 7, 9, 11, 14, 15] | 10 => [1, 2] | 11 => [3] | 12 => [1, 2, 3, 4, 5, 6, 7, 8, 9, 10, 11, 14, 15, 16] | _ => []
/-- The places of an id, as a set. -/
def placesL (id : Int) : Int := plC (clsL id)
/-- May an id stand in a place? -/
def mayL (id wh : Int) : Bool := (maC (clsL id)).contains wh
/-- May an id stand more than once in a place? -/
def oftenL (id wh : Int) : Bool := decide (id = 38 ∨ id = 11 ∧ wh = 3)
theorem table : ((List.range 61).map fun (i : Nat) => ((List.range 19).filter fun (j : Nat) => mayL ((i : Int) - 1) ((j : Int) - 1)).length).sum = 64 := by decide +kernel

/-- A set of places. -/
def orL (ps : List Int) : Int := ps.foldl (fun s p => bits .or .i64 s (wrap64 (2 ^ p.toNat))) 0
theorem orL_snoc (ps : List Int) (p : Int) : orL (ps ++ [p]) = bits .or .i64 (orL ps) (wrap64 (2 ^ p.toNat)) := by simp [orL, List.foldl_append]

def bitAt (pl wh : Int) : Bool := bits .and .i64 (pl / 2 ^ wh.toNat) 1 == 1
theorem cls_lt (id : Int) : clsL id < 13 := by
  unfold clsL
  repeat' split
  all_goals omega
theorem bits_all : ∀ c : Fin 13, ∀ w : Fin 16, bitAt (plC c.val) ((w.val : Int) + 1) = (maC c.val).contains ((w.val : Int) + 1) := by decide +kernel
theorem may_bits (id wh : Int) (h1 : 1 ≤ wh) (h2 : wh ≤ 16) : bitAt (placesL id) wh = mayL id wh := by
  have := bits_all ⟨clsL id, cls_lt id⟩ ⟨(wh - 1).toNat, by omega⟩
  have e : (((wh - 1).toNat : Nat) : Int) + 1 = wh := by omega
  simp only [e] at this
  exact this
theorem range_all : ∀ c : Fin 13, ∀ x ∈ maC c.val, 1 ≤ x ∧ x ≤ 16 := by decide +kernel
theorem may_range (id wh : Int) (h : wh < 1 ∨ 16 < wh) : mayL id wh = false := by
  cases hm : mayL id wh with
  | false => rfl
  | true =>
    have := range_all ⟨clsL id, cls_lt id⟩ wh (by unfold mayL at hm; simpa using hm)
    omega
end Go.Proofs.YtpodhidabhnnnaaDoor

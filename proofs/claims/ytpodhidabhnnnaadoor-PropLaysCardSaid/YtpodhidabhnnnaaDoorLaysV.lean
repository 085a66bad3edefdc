/- Plain layings of the library's contracts at this translation: which number each function, type and variable has here; each fact is closed. Printed by program. -/
import Derived.Test.YtpodhidabhnnnaaDoorProg
import Derived.Shelf.Unicode.ValidAny
namespace Go.Proofs.YtpodhidabhnnnaaDoor
open Go.Shelf

def Tryd.lays196_ren : Go.Shelf.Ren := ⟨fun | 196 => 78 | 259 => 79 | n => n, fun | 9 => 9 | 4 => 4 | 3 => 3 | 5 => 5 | 12 => 12 | 119 => 113 | 0 => 0 | 46 => 99 | 139 => 116 | 138 => 115 | 53 => 90 | n => n, fun | 3 => 0 | 4 => 1 | n => n⟩
theorem Tryd.lays196 : Go.Proofs.Lays.n196 Tryd.prog Tryd.lays196_ren :=
  { mixed := by kernel_rfl,
    f196 := Tryd.func78.trans (congrArg some (by kernel_rfl)),
    f259 := Tryd.func79.trans (congrArg some (by kernel_rfl)),
    t0 := Tryd.underlying0,
    a0 := Tryd.isAgg0,
    z0 := Tryd.sizeOf0,
    v0 := Tryd.zeroValue0,
    t3 := Tryd.underlying3,
    a3 := Tryd.isAgg3,
    z3 := Tryd.sizeOf3,
    v3 := Tryd.zeroValue3,
    t4 := Tryd.underlying4,
    a4 := Tryd.isAgg4,
    z4 := Tryd.sizeOf4,
    v4 := Tryd.zeroValue4,
    t5 := Tryd.underlying5,
    a5 := Tryd.isAgg5,
    z5 := Tryd.sizeOf5,
    v5 := Tryd.zeroValue5,
    t9 := Tryd.underlying9,
    a9 := Tryd.isAgg9,
    z9 := Tryd.sizeOf9,
    v9 := Tryd.zeroValue9,
    t12 := Tryd.underlying12,
    a12 := Tryd.isAgg12,
    z12 := Tryd.sizeOf12,
    v12 := Tryd.zeroValue12,
    t46 := Tryd.underlying99,
    a46 := Tryd.isAgg99,
    z46 := Tryd.sizeOf99,
    v46 := Tryd.zeroValue99,
    t53 := Tryd.underlying90,
    a53 := Tryd.isAgg90,
    z53 := Tryd.sizeOf90,
    v53 := Tryd.zeroValue90,
    t119 := Tryd.underlying113,
    a119 := Tryd.isAgg113,
    z119 := Tryd.sizeOf113,
    t138 := Tryd.underlying115,
    a138 := Tryd.isAgg115,
    z138 := Tryd.sizeOf115,
    v138 := Tryd.zeroValue115,
    t139 := Tryd.underlying116,
    a139 := Tryd.isAgg116,
    z139 := Tryd.sizeOf116,
    v139 := Tryd.zeroValue116,
    g3 := by kernel_rfl,
    g4 := by kernel_rfl }

end Go.Proofs.YtpodhidabhnnnaaDoor

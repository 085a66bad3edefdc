/- Plain layings of the library's contracts at this translation: which number each function, type and variable has here; each fact is closed. Printed by program. -/
import Derived.Test.YtgdfieolfhbmiaaDoorProg
import Derived.Shelf.Unicode.ValidAny
namespace Go.Proofs.YtgdfieolfhbmiaaDoor
open Go.Shelf

def Tryd.lays196_ren : Go.Shelf.Ren := ⟨fun | 196 => 40 | 259 => 47 | n => n, fun | 9 => 9 | 4 => 4 | 3 => 3 | 5 => 5 | 12 => 12 | 119 => 76 | 0 => 0 | 46 => 72 | 139 => 79 | 138 => 78 | 53 => 46 | n => n, fun | 3 => 0 | 4 => 1 | n => n⟩
theorem Tryd.lays196 : Go.Proofs.Lays.n196 Tryd.prog Tryd.lays196_ren :=
  { mixed := by kernel_rfl,
    f196 := Tryd.func40.trans (congrArg some (by kernel_rfl)),
    f259 := Tryd.func47.trans (congrArg some (by kernel_rfl)),
    t0 := Tryd.underlying0,
    a0 := Tryd.isAgg0,
    z0 := Tryd.sizeOf0,
    v0 := Tryd.zeroValue0,
    t3 := Tryd.underlying3,
    a3 := Tryd.isAgg3,
    z3 := Tryd.sizeOf3,
    v3 := Tryd.zeroValue3,
    t4 := Tryd.underlying4,
    a4 := Tryd.isAgg4,
    z4 := Tryd.sizeOf4,
    v4 := Tryd.zeroValue4,
    t5 := Tryd.underlying5,
    a5 := Tryd.isAgg5,
    z5 := Tryd.sizeOf5,
    v5 := Tryd.zeroValue5,
    t9 := Tryd.underlying9,
    a9 := Tryd.isAgg9,
    z9 := Tryd.sizeOf9,
    v9 := Tryd.zeroValue9,
    t12 := Tryd.underlying12,
    a12 := Tryd.isAgg12,
    z12 := Tryd.sizeOf12,
    v12 := Tryd.zeroValue12,
    t46 := Tryd.underlying72,
    a46 := Tryd.isAgg72,
    z46 := Tryd.sizeOf72,
    v46 := Tryd.zeroValue72,
    t53 := Tryd.underlying46,
    a53 := Tryd.isAgg46,
    z53 := Tryd.sizeOf46,
    v53 := Tryd.zeroValue46,
    t119 := Tryd.underlying76,
    a119 := Tryd.isAgg76,
    z119 := Tryd.sizeOf76,
    t138 := Tryd.underlying78,
    a138 := Tryd.isAgg78,
    z138 := Tryd.sizeOf78,
    v138 := Tryd.zeroValue78,
    t139 := Tryd.underlying79,
    a139 := Tryd.isAgg79,
    z139 := Tryd.sizeOf79,
    v139 := Tryd.zeroValue79,
    g3 := by kernel_rfl,
    g4 := by kernel_rfl }

end Go.Proofs.YtgdfieolfhbmiaaDoor

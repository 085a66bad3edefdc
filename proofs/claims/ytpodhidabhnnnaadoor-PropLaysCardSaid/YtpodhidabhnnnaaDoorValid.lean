
import Derived.Test.YtpodhidabhnnnaaDoorProg
import Derived.Test.YtpodhidabhnnnaaDoorBase
import Derived.Lib.ValidU
import Derived.Lib.TrimUEq
import Derived.Lib.MapLaws
import Derived.Test.YtpodhidabhnnnaaDoorLaysV
namespace Go.Proofs.YtpodhidabhnnnaaDoor
open Go.RowKit
def Tabs (w : World) : Prop := Lib.Utf8Tabs 0 1 w
theorem Tabs.below {w w' : World} (h : Tabs w) (hb : Below w.heap.size w w') : Tabs w' := Utf8Tabs_below h hb
theorem valid_any (l : List UInt8) (w : World) (hl : l.length ≤ 9223372036854775807) (hT : Tabs w) (R : Ending → World → Prop)
    (hR : ∀ w', Below w.heap.size w w' → R (.returned (.bool (Lib.validD l))) w') : Calls Tryd.prog 78 #[.string (str l)] w R := by
  have h : Calls Tryd.prog 78 #[.string (str l)] w _ := Any.utf8_ValidString Tryd.lays196 (str l) w hl hT
  refine h.mono fun e w' he => ?_
  obtain ⟨rfl, hb⟩ := he
  exact hR w' hb
end Go.Proofs.YtpodhidabhnnnaaDoor

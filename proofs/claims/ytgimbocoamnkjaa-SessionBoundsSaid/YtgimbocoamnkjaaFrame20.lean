/- What all claims of this seat have in common: the witness's world. -/
import Derived.Test.YtgimbocoamnkjaaRows
import Derived.Test.YtgimbocoamnkjaaChecked
import Derived.Test.YtgimbocoamnkjaaOpen20
import Derived.Test.YtgimbocoamnkjaaOpen
import Derived.Lib.LaidIn
import Derived.Deep.DeepHandedRow
import Derived.Deep.DeepWitnessRowRef
import Derived.PinnedBridge
namespace Go.Proofs.Ytgimbocoamnkjaa
open Go.Shelf Go.ChangeShapes Go.WideShapes Go.ChangeAt Go.RowKit Go.Lib

theorem own : ownKnob Try.prog.godebug = none := by kernel_rfl

/-- A world for the witness: the settled one. -/
noncomputable def laidWorld (os : Os) : World := World.holding Try.prog os ⟨#[], #[], []⟩
abbrev laidList : List (String × DataW Unit) := []
theorem laid_met (os : Os) (args : Array Value) : laidMet Try.prog laidList ((laidWorld os).forCall (fun _ _ => 0) ⟨#[], args, []⟩).memory :=
  (LaidIn.of_run (l := laidList) [] 8 (by kernel_rfl) (by kernel_rfl) (by kernel_rfl) (by kernel_rfl)).met
end Go.Proofs.Ytgimbocoamnkjaa

/-
  No cell of these rows narrows 'for every input' (looked for: loops, veiled, ifaces, maps, wideKeys, modest, calm, conditions, laid).
  DERIVED. THE GIVEN ROWS OF THIS SEAT. 6 by the template 'for every input the law returns true; each argument reads behind the call as it read before'; 0 by the template 'total and deterministic' (their statements: YtgkgahjdjkmmnaaTotals.lean).
  GIVEN WITH THE SEED: the statements are not yours to turn. If you find one false, say at which input.
  Laid BY PROGRAM, IN A SANDBOX (cutbox-rows.mjs): the forced cells as the released guide's own fill.sh prints them over the translation 0288b34648166cb8… (all of the seat's roots in one cut). By AI agents, Wed Nov 11 2026. No macro, syntax, notation, axiom, sorry.
-/
import Derived.Test.YtgkgahjdjkmmnaaChecked
import GoSem.Claim
import GoSem.ClaimJoined
import GoSem.ClaimMapViews
import Derived.JoinedTies
import Derived.KernelRfl
namespace Go.Proofs.Ytgkgahjdjkmmnaa
/- THE CELL 'sum', in the pinned program and in every row, IS THE sha256 OF THE DUMP (.gsa) THAT YtgkgahjdjkmmnaaProg.lean LOADS. Nothing in Lean hashes anything: it is a label: what it is worth is what the hold of that sum in a sandbox is worth. -/
noncomputable def Try.pinned : Pinned := { name := "ytgkgahjdjkmmnaa", sum := "0288b34648166cb84acea647bb152887ea9d9259525660dee750320c71485dc6", checked := Try.checked }
namespace Rows
def none {H : Type} : Left H := { results := [], args := [] }

/-- 'tidingslaw09.MergeRows': WHATEVER THE INPUT: true; the input reads as it did. -/
def mergeRowsSpec : ChangeSpec := { name := "mergeRows", fn := fun _ => fun
  | [d1, d2] => { results := [.lit (.bool true)], args := [d1, d2] }
  | _ => none }
def mergeRowsRow : OpenClaim := { program := "ytgkgahjdjkmmnaa", sum := "0288b34648166cb84acea647bb152887ea9d9259525660dee750320c71485dc6", func := "tidings/tidingslaw09.MergeRows", spec := "mergeRows", inPlace := ["internal/bytealg.Compare"], unfollowed := true, recurses := true, apart := false }
def MergeRowsSaid : Prop := mergeRowsRow.holds Try.pinned (OpenSpec.ofChange mergeRowsSpec)

/-- ITS FALSE NEIGHBOUR: 'it returns false'. Refute it at one input. -/
def mergeRowsWrong : ChangeSpec := { name := "mergeRows", fn := fun _ => fun
  | [d1, d2] => { results := [.lit (.bool false)], args := [d1, d2] }
  | _ => none }
def MergeRowsWrongFalsely : Prop := mergeRowsRow.holds Try.pinned (OpenSpec.ofChange mergeRowsWrong)

/-- 'tidingslaw09.MergeThins': WHATEVER THE INPUT: true; the input reads as it did. -/
def mergeThinsSpec : ChangeSpec := { name := "mergeThins", fn := fun _ => fun
  | [d1, d2, d3, d4] => { results := [.lit (.bool true)], args := [d1, d2, d3, d4] }
  | _ => none }
def mergeThinsRow : OpenClaim := { program := "ytgkgahjdjkmmnaa", sum := "0288b34648166cb84acea647bb152887ea9d9259525660dee750320c71485dc6", func := "tidings/tidingslaw09.MergeThins", spec := "mergeThins", inPlace := ["internal/bytealg.Compare"], unfollowed := true, recurses := true, apart := false }
def MergeThinsSaid : Prop := mergeThinsRow.holds Try.pinned (OpenSpec.ofChange mergeThinsSpec)

/-- ITS FALSE NEIGHBOUR: 'it returns false'. Refute it at one input. -/
def mergeThinsWrong : ChangeSpec := { name := "mergeThins", fn := fun _ => fun
  | [d1, d2, d3, d4] => { results := [.lit (.bool false)], args := [d1, d2, d3, d4] }
  | _ => none }
def MergeThinsWrongFalsely : Prop := mergeThinsRow.holds Try.pinned (OpenSpec.ofChange mergeThinsWrong)

/-- 'tidingslaw09.MergeSpread': WHATEVER THE INPUT: true; the input reads as it did. -/
def mergeSpreadSpec : ChangeSpec := { name := "mergeSpread", fn := fun _ => fun
  | [d1, d2, d3] => { results := [.lit (.bool true)], args := [d1, d2, d3] }
  | _ => none }
def mergeSpreadRow : OpenClaim := { program := "ytgkgahjdjkmmnaa", sum := "0288b34648166cb84acea647bb152887ea9d9259525660dee750320c71485dc6", func := "tidings/tidingslaw09.MergeSpread", spec := "mergeSpread", inPlace := ["internal/bytealg.Compare"], unfollowed := true, recurses := true, apart := false }
def MergeSpreadSaid : Prop := mergeSpreadRow.holds Try.pinned (OpenSpec.ofChange mergeSpreadSpec)

/-- ITS FALSE NEIGHBOUR: 'it returns false'. Refute it at one input. -/
def mergeSpreadWrong : ChangeSpec := { name := "mergeSpread", fn := fun _ => fun
  | [d1, d2, d3] => { results := [.lit (.bool false)], args := [d1, d2, d3] }
  | _ => none }
def MergeSpreadWrongFalsely : Prop := mergeSpreadRow.holds Try.pinned (OpenSpec.ofChange mergeSpreadWrong)

/-- 'tidingslaw09.MergeSees': WHATEVER THE INPUT: true; the input reads as it did. -/
def mergeSeesSpec : ChangeSpec := { name := "mergeSees", fn := fun _ => fun
  | [d1, d2, d3, d4] => { results := [.lit (.bool true)], args := [d1, d2, d3, d4] }
  | _ => none }
def mergeSeesRow : OpenClaim := { program := "ytgkgahjdjkmmnaa", sum := "0288b34648166cb84acea647bb152887ea9d9259525660dee750320c71485dc6", func := "tidings/tidingslaw09.MergeSees", spec := "mergeSees", inPlace := ["internal/bytealg.Compare"], unfollowed := true, recurses := true, apart := false }
def MergeSeesSaid : Prop := mergeSeesRow.holds Try.pinned (OpenSpec.ofChange mergeSeesSpec)

/-- ITS FALSE NEIGHBOUR: 'it returns false'. Refute it at one input. -/
def mergeSeesWrong : ChangeSpec := { name := "mergeSees", fn := fun _ => fun
  | [d1, d2, d3, d4] => { results := [.lit (.bool false)], args := [d1, d2, d3, d4] }
  | _ => none }
def MergeSeesWrongFalsely : Prop := mergeSeesRow.holds Try.pinned (OpenSpec.ofChange mergeSeesWrong)

/-- 'tidingslaw09.MergePicks': WHATEVER THE INPUT: true; the input reads as it did. -/
def mergePicksSpec : ChangeSpec := { name := "mergePicks", fn := fun _ => fun
  | [d] => { results := [.lit (.bool true)], args := [d] }
  | _ => none }
def mergePicksRow : OpenClaim := { program := "ytgkgahjdjkmmnaa", sum := "0288b34648166cb84acea647bb152887ea9d9259525660dee750320c71485dc6", func := "tidings/tidingslaw09.MergePicks", spec := "mergePicks", inPlace := ["internal/bytealg.Compare"], unfollowed := true, recurses := true, apart := false }
def MergePicksSaid : Prop := mergePicksRow.holds Try.pinned (OpenSpec.ofChange mergePicksSpec)

/-- ITS FALSE NEIGHBOUR: 'it returns false'. Refute it at one input. -/
def mergePicksWrong : ChangeSpec := { name := "mergePicks", fn := fun _ => fun
  | [d] => { results := [.lit (.bool false)], args := [d] }
  | _ => none }
def MergePicksWrongFalsely : Prop := mergePicksRow.holds Try.pinned (OpenSpec.ofChange mergePicksWrong)

/-- 'tidingslaw09.MergeFits': WHATEVER THE INPUT: true; the input reads as it did. -/
def mergeFitsSpec : ChangeSpec := { name := "mergeFits", fn := fun _ => fun
  | [d] => { results := [.lit (.bool true)], args := [d] }
  | _ => none }
def mergeFitsRow : OpenClaim := { program := "ytgkgahjdjkmmnaa", sum := "0288b34648166cb84acea647bb152887ea9d9259525660dee750320c71485dc6", func := "tidings/tidingslaw09.MergeFits", spec := "mergeFits", inPlace := ["internal/bytealg.Compare"], unfollowed := true, recurses := true, apart := false }
def MergeFitsSaid : Prop := mergeFitsRow.holds Try.pinned (OpenSpec.ofChange mergeFitsSpec)

/-- ITS FALSE NEIGHBOUR: 'it returns false'. Refute it at one input. -/
def mergeFitsWrong : ChangeSpec := { name := "mergeFits", fn := fun _ => fun
  | [d] => { results := [.lit (.bool false)], args := [d] }
  | _ => none }
def MergeFitsWrongFalsely : Prop := mergeFitsRow.holds Try.pinned (OpenSpec.ofChange mergeFitsWrong)

/- THE SECOND FORM. 'bulk': how many values and letters a reading holds, each counted each time it is reached (what is shared counts as often as it is met; a slice's spare places count too). A statement '..UptoSaid' is the law's where the arguments, and the package variables that the reading takes, are together of bulk at most 1048576: NARROWER than '..Said'. Prove '..Said' where nothing that the law and all that it calls make is longer than what came in: it says more and counts as full. Else prove '..UptoSaid'. A law counts once. -/
mutual
def uptoBulk {H : Type} : DataW H → Nat
  | .lit (.string bytes) => bytes.length + 1
  | .lit _ => 1
  | .nil => 1
  | .ptr d => uptoBulk d + 1
  | .slice elems spare => uptoBulkAll elems + uptoBulkAll spare + 1
  | .agg parts => uptoBulkAll parts + 1
  | .iface _ d => uptoBulk d + 1
  | .map entries => uptoBulkEntries entries + 1
  | .held _ => 1
def uptoBulkAll {H : Type} : List (DataW H) → Nat
  | [] => 0
  | d :: r => uptoBulk d + uptoBulkAll r
def uptoBulkEntries {H : Type} : List (Lit × DataW H) → Nat
  | [] => 0
  | x :: r => uptoBulkEntry x + uptoBulkEntries r
def uptoBulkEntry {H : Type} : Lit × DataW H → Nat
  | (.string bytes, d) => bytes.length + uptoBulk d + 1
  | (_, d) => uptoBulk d + 1
 end
def uptoSmall : (H : Type) → List (DataW H) → Bool := fun _ ds => decide (uptoBulkAll ds ≤ 1048576)
def OpenSpec.upto (s : _root_.Go.ChangeSpec) : _root_.Go.OpenSpec := { _root_.Go.OpenSpec.ofChange s with cond := some uptoSmall }

/-- 'tidingslaw09.MergeRows', WHERE WHAT IT READS IS OF BULK AT MOST 1048576: true; the input reads as it did. -/
def mergeRowsUptoRow : OpenClaim := { program := "ytgkgahjdjkmmnaa", sum := "0288b34648166cb84acea647bb152887ea9d9259525660dee750320c71485dc6", func := "tidings/tidingslaw09.MergeRows", spec := "mergeRows", inPlace := ["internal/bytealg.Compare"], unfollowed := true, recurses := true, apart := false, narrowed := true }
def MergeRowsUptoSaid : Prop := mergeRowsUptoRow.holds Try.pinned (OpenSpec.upto mergeRowsSpec)

/-- 'tidingslaw09.MergeThins', WHERE WHAT IT READS IS OF BULK AT MOST 1048576: true; the input reads as it did. -/
def mergeThinsUptoRow : OpenClaim := { program := "ytgkgahjdjkmmnaa", sum := "0288b34648166cb84acea647bb152887ea9d9259525660dee750320c71485dc6", func := "tidings/tidingslaw09.MergeThins", spec := "mergeThins", inPlace := ["internal/bytealg.Compare"], unfollowed := true, recurses := true, apart := false, narrowed := true }
def MergeThinsUptoSaid : Prop := mergeThinsUptoRow.holds Try.pinned (OpenSpec.upto mergeThinsSpec)

/-- 'tidingslaw09.MergeSpread', WHERE WHAT IT READS IS OF BULK AT MOST 1048576: true; the input reads as it did. -/
def mergeSpreadUptoRow : OpenClaim := { program := "ytgkgahjdjkmmnaa", sum := "0288b34648166cb84acea647bb152887ea9d9259525660dee750320c71485dc6", func := "tidings/tidingslaw09.MergeSpread", spec := "mergeSpread", inPlace := ["internal/bytealg.Compare"], unfollowed := true, recurses := true, apart := false, narrowed := true }
def MergeSpreadUptoSaid : Prop := mergeSpreadUptoRow.holds Try.pinned (OpenSpec.upto mergeSpreadSpec)

/-- 'tidingslaw09.MergeSees', WHERE WHAT IT READS IS OF BULK AT MOST 1048576: true; the input reads as it did. -/
def mergeSeesUptoRow : OpenClaim := { program := "ytgkgahjdjkmmnaa", sum := "0288b34648166cb84acea647bb152887ea9d9259525660dee750320c71485dc6", func := "tidings/tidingslaw09.MergeSees", spec := "mergeSees", inPlace := ["internal/bytealg.Compare"], unfollowed := true, recurses := true, apart := false, narrowed := true }
def MergeSeesUptoSaid : Prop := mergeSeesUptoRow.holds Try.pinned (OpenSpec.upto mergeSeesSpec)

/-- 'tidingslaw09.MergePicks', WHERE WHAT IT READS IS OF BULK AT MOST 1048576: true; the input reads as it did. -/
def mergePicksUptoRow : OpenClaim := { program := "ytgkgahjdjkmmnaa", sum := "0288b34648166cb84acea647bb152887ea9d9259525660dee750320c71485dc6", func := "tidings/tidingslaw09.MergePicks", spec := "mergePicks", inPlace := ["internal/bytealg.Compare"], unfollowed := true, recurses := true, apart := false, narrowed := true }
def MergePicksUptoSaid : Prop := mergePicksUptoRow.holds Try.pinned (OpenSpec.upto mergePicksSpec)

/-- 'tidingslaw09.MergeFits', WHERE WHAT IT READS IS OF BULK AT MOST 1048576: true; the input reads as it did. -/
def mergeFitsUptoRow : OpenClaim := { program := "ytgkgahjdjkmmnaa", sum := "0288b34648166cb84acea647bb152887ea9d9259525660dee750320c71485dc6", func := "tidings/tidingslaw09.MergeFits", spec := "mergeFits", inPlace := ["internal/bytealg.Compare"], unfollowed := true, recurses := true, apart := false, narrowed := true }
def MergeFitsUptoSaid : Prop := mergeFitsUptoRow.holds Try.pinned (OpenSpec.upto mergeFitsSpec)

end Rows
end Go.Proofs.Ytgkgahjdjkmmnaa

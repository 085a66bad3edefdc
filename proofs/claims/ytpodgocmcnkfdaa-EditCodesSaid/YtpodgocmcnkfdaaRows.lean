/-
  No cell of these rows narrows 'for every input' (looked for: loops, veiled, ifaces, maps, wideKeys, modest, calm, conditions, laid).
  DERIVED. THE GIVEN ROWS OF THIS SEAT. 4 by the template 'for every input the law returns true; each argument reads behind the call as it read before'; 0 by the template 'total and deterministic' (their statements: YtpodgocmcnkfdaaTotals.lean).
  GIVEN WITH THE SEED: the statements are not yours to turn. If you find one false, say at which input.
  Laid BY PROGRAM, IN A SANDBOX (cutbox-rows.mjs): the forced cells as the released guide's own fill.sh prints them over the translation 36f541be6ebf3881… (all of the seat's roots in one cut). By AI agents, Wed Nov 11 2026. No macro, syntax, notation, axiom, sorry.
-/
import Derived.Test.YtpodgocmcnkfdaaChecked
import GoSem.Claim
import GoSem.ClaimJoined
import GoSem.ClaimMapViews
import Derived.JoinedTies
import Derived.KernelRfl
namespace Go.Proofs.Ytpodgocmcnkfdaa
/- THE CELL 'sum', in the pinned program and in every row, IS THE sha256 OF THE DUMP (.gsa) THAT YtpodgocmcnkfdaaProg.lean LOADS. Nothing in Lean hashes anything: it is a label: what it is worth is what the hold of that sum in a sandbox is worth. -/
noncomputable def Try.pinned : Pinned := { name := "ytpodgocmcnkfdaa", sum := "36f541be6ebf3881b8614533b7b0d3025499d0f5aa799fef06664f2f4a3edfb7", checked := Try.checked }
namespace Rows
def none {H : Type} : Left H := { results := [], args := [] }

/-- 'tidingslaw08.EditApplies': WHATEVER THE INPUT: true; the input reads as it did. -/
def editAppliesSpec : ChangeSpec := { name := "editApplies", fn := fun _ => fun
  | [d1, d2] => { results := [.lit (.bool true)], args := [d1, d2] }
  | _ => none }
def editAppliesRow : OpenClaim := { program := "ytpodgocmcnkfdaa", sum := "36f541be6ebf3881b8614533b7b0d3025499d0f5aa799fef06664f2f4a3edfb7", func := "tidings/tidingslaw08.EditApplies", spec := "editApplies", inPlace := ["internal/bytealg.Compare"], unfollowed := true, recurses := true, apart := false }
def EditAppliesSaid : Prop := editAppliesRow.holds Try.pinned (OpenSpec.ofChange editAppliesSpec)

/-- ITS FALSE NEIGHBOUR: 'it returns false'. Refute it at one input. -/
def editAppliesWrong : ChangeSpec := { name := "editApplies", fn := fun _ => fun
  | [d1, d2] => { results := [.lit (.bool false)], args := [d1, d2] }
  | _ => none }
def EditAppliesWrongFalsely : Prop := editAppliesRow.holds Try.pinned (OpenSpec.ofChange editAppliesWrong)

/-- 'tidingslaw08.EditRows': WHATEVER THE INPUT: true; the input reads as it did. -/
def editRowsSpec : ChangeSpec := { name := "editRows", fn := fun _ => fun
  | [d] => { results := [.lit (.bool true)], args := [d] }
  | _ => none }
def editRowsRow : OpenClaim := { program := "ytpodgocmcnkfdaa", sum := "36f541be6ebf3881b8614533b7b0d3025499d0f5aa799fef06664f2f4a3edfb7", func := "tidings/tidingslaw08.EditRows", spec := "editRows", inPlace := ["internal/bytealg.Compare"], unfollowed := true, recurses := true, apart := false }
def EditRowsSaid : Prop := editRowsRow.holds Try.pinned (OpenSpec.ofChange editRowsSpec)

/-- ITS FALSE NEIGHBOUR: 'it returns false'. Refute it at one input. -/
def editRowsWrong : ChangeSpec := { name := "editRows", fn := fun _ => fun
  | [d] => { results := [.lit (.bool false)], args := [d] }
  | _ => none }
def EditRowsWrongFalsely : Prop := editRowsRow.holds Try.pinned (OpenSpec.ofChange editRowsWrong)

/-- 'tidingslaw08.EditUndoes': WHATEVER THE INPUT: true; the input reads as it did. -/
def editUndoesSpec : ChangeSpec := { name := "editUndoes", fn := fun _ => fun
  | [d1, d2, d3] => { results := [.lit (.bool true)], args := [d1, d2, d3] }
  | _ => none }
def editUndoesRow : OpenClaim := { program := "ytpodgocmcnkfdaa", sum := "36f541be6ebf3881b8614533b7b0d3025499d0f5aa799fef06664f2f4a3edfb7", func := "tidings/tidingslaw08.EditUndoes", spec := "editUndoes", inPlace := ["internal/bytealg.Compare"], unfollowed := true, recurses := true, apart := false }
def EditUndoesSaid : Prop := editUndoesRow.holds Try.pinned (OpenSpec.ofChange editUndoesSpec)

/-- ITS FALSE NEIGHBOUR: 'it returns false'. Refute it at one input. -/
def editUndoesWrong : ChangeSpec := { name := "editUndoes", fn := fun _ => fun
  | [d1, d2, d3] => { results := [.lit (.bool false)], args := [d1, d2, d3] }
  | _ => none }
def EditUndoesWrongFalsely : Prop := editUndoesRow.holds Try.pinned (OpenSpec.ofChange editUndoesWrong)

/-- 'tidingslaw08.EditCodes': WHATEVER THE INPUT: true; the input reads as it did. -/
def editCodesSpec : ChangeSpec := { name := "editCodes", fn := fun _ => fun
  | [d1, d2] => { results := [.lit (.bool true)], args := [d1, d2] }
  | _ => none }
def editCodesRow : OpenClaim := { program := "ytpodgocmcnkfdaa", sum := "36f541be6ebf3881b8614533b7b0d3025499d0f5aa799fef06664f2f4a3edfb7", func := "tidings/tidingslaw08.EditCodes", spec := "editCodes", inPlace := ["internal/bytealg.Compare"], unfollowed := true, recurses := true, apart := false }
def EditCodesSaid : Prop := editCodesRow.holds Try.pinned (OpenSpec.ofChange editCodesSpec)

/-- ITS FALSE NEIGHBOUR: 'it returns false'. Refute it at one input. -/
def editCodesWrong : ChangeSpec := { name := "editCodes", fn := fun _ => fun
  | [d1, d2] => { results := [.lit (.bool false)], args := [d1, d2] }
  | _ => none }
def EditCodesWrongFalsely : Prop := editCodesRow.holds Try.pinned (OpenSpec.ofChange editCodesWrong)

/- THE SECOND FORM. 'bulk': how many values and letters a reading holds, each counted each time it is reached (what is shared counts as often as it is met; a slice's spare places count too). A statement '..UptoSaid' is the law's where the arguments, and the package variables that the reading takes, are together of bulk at most 1048576: NARROWER than '..Said'. Prove '..Said' where nothing that the law and all that it calls make is longer than what came in: it says more and counts as full. Else prove '..UptoSaid'. A law counts once. -/
mutual
def uptoBulk {H : Type} : DataW H → Nat
  | .lit (.string bytes) => bytes.length + 1
  | .lit _ => 1
  | .nil => 1
  | .ptr d => uptoBulk d + 1
  | .slice elems spare => uptoBulkAll elems + uptoBulkAll spare + 1
  | .agg parts => uptoBulkAll parts + 1
  | .iface _ d => uptoBulk d + 1
  | .map entries => uptoBulkEntries entries + 1
  | .held _ => 1
def uptoBulkAll {H : Type} : List (DataW H) → Nat
  | [] => 0
  | d :: r => uptoBulk d + uptoBulkAll r
def uptoBulkEntries {H : Type} : List (Lit × DataW H) → Nat
  | [] => 0
  | x :: r => uptoBulkEntry x + uptoBulkEntries r
def uptoBulkEntry {H : Type} : Lit × DataW H → Nat
  | (.string bytes, d) => bytes.length + uptoBulk d + 1
  | (_, d) => uptoBulk d + 1
 end
def uptoSmall : (H : Type) → List (DataW H) → Bool := fun _ ds => decide (uptoBulkAll ds ≤ 1048576)
def OpenSpec.upto (s : _root_.Go.ChangeSpec) : _root_.Go.OpenSpec := { _root_.Go.OpenSpec.ofChange s with cond := some uptoSmall }

/-- 'tidingslaw08.EditApplies', WHERE WHAT IT READS IS OF BULK AT MOST 1048576: true; the input reads as it did. -/
def editAppliesUptoRow : OpenClaim := { program := "ytpodgocmcnkfdaa", sum := "36f541be6ebf3881b8614533b7b0d3025499d0f5aa799fef06664f2f4a3edfb7", func := "tidings/tidingslaw08.EditApplies", spec := "editApplies", inPlace := ["internal/bytealg.Compare"], unfollowed := true, recurses := true, apart := false, narrowed := true }
def EditAppliesUptoSaid : Prop := editAppliesUptoRow.holds Try.pinned (OpenSpec.upto editAppliesSpec)

/-- 'tidingslaw08.EditRows', WHERE WHAT IT READS IS OF BULK AT MOST 1048576: true; the input reads as it did. -/
def editRowsUptoRow : OpenClaim := { program := "ytpodgocmcnkfdaa", sum := "36f541be6ebf3881b8614533b7b0d3025499d0f5aa799fef06664f2f4a3edfb7", func := "tidings/tidingslaw08.EditRows", spec := "editRows", inPlace := ["internal/bytealg.Compare"], unfollowed := true, recurses := true, apart := false, narrowed := true }
def EditRowsUptoSaid : Prop := editRowsUptoRow.holds Try.pinned (OpenSpec.upto editRowsSpec)

/-- 'tidingslaw08.EditUndoes', WHERE WHAT IT READS IS OF BULK AT MOST 1048576: true; the input reads as it did. -/
def editUndoesUptoRow : OpenClaim := { program := "ytpodgocmcnkfdaa", sum := "36f541be6ebf3881b8614533b7b0d3025499d0f5aa799fef06664f2f4a3edfb7", func := "tidings/tidingslaw08.EditUndoes", spec := "editUndoes", inPlace := ["internal/bytealg.Compare"], unfollowed := true, recurses := true, apart := false, narrowed := true }
def EditUndoesUptoSaid : Prop := editUndoesUptoRow.holds Try.pinned (OpenSpec.upto editUndoesSpec)

/-- 'tidingslaw08.EditCodes', WHERE WHAT IT READS IS OF BULK AT MOST 1048576: true; the input reads as it did. -/
def editCodesUptoRow : OpenClaim := { program := "ytpodgocmcnkfdaa", sum := "36f541be6ebf3881b8614533b7b0d3025499d0f5aa799fef06664f2f4a3edfb7", func := "tidings/tidingslaw08.EditCodes", spec := "editCodes", inPlace := ["internal/bytealg.Compare"], unfollowed := true, recurses := true, apart := false, narrowed := true }
def EditCodesUptoSaid : Prop := editCodesUptoRow.holds Try.pinned (OpenSpec.upto editCodesSpec)

end Rows
end Go.Proofs.Ytpodgocmcnkfdaa

/-
  NARROWER THAN 'FOR EVERY INPUT', by the rows' own cells (each row's printed sentence says how): PropReads: laid · PropBack: laid · PropTwice: laid · PropTable: laid · PropLays: laid.
  DERIVED. THE GIVEN ROWS OF THIS SEAT. 5 by the template 'for every input the law returns true; each argument reads behind the call as it read before'; 0 by the template 'total and deterministic' (their statements: YtpodhidabhnnnaaDoorTotals.lean).
  GIVEN WITH THE SEED: the statements are not yours to turn. If you find one false, say at which input.
  Laid BY PROGRAM, IN A SANDBOX (cutbox-rows.mjs): the forced cells as the released guide's own fill.sh prints them over the translation 874bae5d6a917169… (all of the seat's roots in one cut). By AI agents, Wed Nov 11 2026. No macro, syntax, notation, axiom, sorry.
-/
import Derived.Test.YtpodhidabhnnnaaDoorChecked
import GoSem.PinnedTables
import GoSem.Claim
import GoSem.ClaimJoined
import GoSem.ClaimMapViews
import Derived.JoinedTies
import Derived.KernelRfl
namespace Go.Proofs.YtpodhidabhnnnaaDoor
/- THE CELL 'sum', in the pinned program and in every row, IS THE sha256 OF THE DUMP (.gsa) THAT YtpodhidabhnnnaaDoorProg.lean LOADS. Nothing in Lean hashes anything: it is a label: what it is worth is what the hold of that sum in a sandbox is worth. -/
noncomputable def Tryd.pinned : Pinned := { name := "ytpodhidabhnnnaadoor", sum := "874bae5d6a917169a8a4d14768a949aad4fbe792e8eb4a6c17578f8fc9ccfffa", checked := Tryd.checked }
namespace Rows
def none {H : Type} : Left H := { results := [], args := [] }

/- WHAT THE LISTED PACKAGE-LEVEL VARIABLES READ AS WHEN THE CALL BEGINS. Each datum BY PROGRAM (the guide's laid-datum.mjs) off the statement by which the dump's own 'gosem.cut.vars' lays the variable. In a bare row this is a premise. The card (YtpodhidabhnnnaaDoorCards.lean) ties it to the program's text. -/
def laid_unicode_utf8_acceptRanges {H : Type} : DataW H := .agg [.agg [.lit (.int .u8 128), .lit (.int .u8 191)], .agg [.lit (.int .u8 160), .lit (.int .u8 191)], .agg [.lit (.int .u8 128), .lit (.int .u8 159)], .agg [.lit (.int .u8 144), .lit (.int .u8 191)], .agg [.lit (.int .u8 128), .lit (.int .u8 143)], .agg [.lit (.int .u8 0), .lit (.int .u8 0)], .agg [.lit (.int .u8 0), .lit (.int .u8 0)], .agg [.lit (.int .u8 0), .lit (.int .u8 0)], .agg [.lit (.int .u8 0), .lit (.int .u8 0)], .agg [.lit (.int .u8 0), .lit (.int .u8 0)], .agg [.lit (.int .u8 0), .lit (.int .u8 0)], .agg [.lit (.int .u8 0), .lit (.int .u8 0)], .agg [.lit (.int .u8 0), .lit (.int .u8 0)], .agg [.lit (.int .u8 0), .lit (.int .u8 0)], .agg [.lit (.int .u8 0), .lit (.int .u8 0)], .agg [.lit (.int .u8 0), .lit (.int .u8 0)]]
/-- One of Go's own tables, pinned by name: the form's constant. -/
def laid_unicode_utf8_first : DataW Unit := Go.Pinned.utf8First

/-- 'tidingslaw11.PropReads': WHATEVER THE INPUT: true; the input reads as it did. -/
def propReadsSpec : ChangeSpec := { name := "propReads", fn := fun _ => fun
  | [d1, d2, d3] => { results := [.lit (.bool true)], args := [d1, d2, d3] }
  | _ => none }
def propReadsRow : OpenClaim := { program := "ytpodhidabhnnnaadoor", sum := "874bae5d6a917169a8a4d14768a949aad4fbe792e8eb4a6c17578f8fc9ccfffa", func := "tidings/tidingslaw11.PropReads", spec := "propReads", unfollowed := true, recurses := true, named := ["unicode/utf8.first", "unicode/utf8.acceptRanges"], apart := false, laid := [("unicode/utf8.acceptRanges", laid_unicode_utf8_acceptRanges), ("unicode/utf8.first", laid_unicode_utf8_first)] }
def PropReadsSaid : Prop := propReadsRow.holds Tryd.pinned (OpenSpec.ofChange propReadsSpec)

/-- ITS FALSE NEIGHBOUR: 'it returns false'. Refute it at one input. -/
def propReadsWrong : ChangeSpec := { name := "propReads", fn := fun _ => fun
  | [d1, d2, d3] => { results := [.lit (.bool false)], args := [d1, d2, d3] }
  | _ => none }
def PropReadsWrongFalsely : Prop := propReadsRow.holds Tryd.pinned (OpenSpec.ofChange propReadsWrong)

/-- 'tidingslaw11.PropBack': WHATEVER THE INPUT: true; the input reads as it did. -/
def propBackSpec : ChangeSpec := { name := "propBack", fn := fun _ => fun
  | [d1, d2, d3, d4] => { results := [.lit (.bool true)], args := [d1, d2, d3, d4] }
  | _ => none }
def propBackRow : OpenClaim := { program := "ytpodhidabhnnnaadoor", sum := "874bae5d6a917169a8a4d14768a949aad4fbe792e8eb4a6c17578f8fc9ccfffa", func := "tidings/tidingslaw11.PropBack", spec := "propBack", unfollowed := true, recurses := true, named := ["unicode/utf8.first", "unicode/utf8.acceptRanges"], apart := false, laid := [("unicode/utf8.acceptRanges", laid_unicode_utf8_acceptRanges), ("unicode/utf8.first", laid_unicode_utf8_first)] }
def PropBackSaid : Prop := propBackRow.holds Tryd.pinned (OpenSpec.ofChange propBackSpec)

/-- ITS FALSE NEIGHBOUR: 'it returns false'. Refute it at one input. -/
def propBackWrong : ChangeSpec := { name := "propBack", fn := fun _ => fun
  | [d1, d2, d3, d4] => { results := [.lit (.bool false)], args := [d1, d2, d3, d4] }
  | _ => none }
def PropBackWrongFalsely : Prop := propBackRow.holds Tryd.pinned (OpenSpec.ofChange propBackWrong)

/-- 'tidingslaw11.PropTwice': WHATEVER THE INPUT: true; the input reads as it did. -/
def propTwiceSpec : ChangeSpec := { name := "propTwice", fn := fun _ => fun
  | [d1, d2] => { results := [.lit (.bool true)], args := [d1, d2] }
  | _ => none }
def propTwiceRow : OpenClaim := { program := "ytpodhidabhnnnaadoor", sum := "874bae5d6a917169a8a4d14768a949aad4fbe792e8eb4a6c17578f8fc9ccfffa", func := "tidings/tidingslaw11.PropTwice", spec := "propTwice", unfollowed := true, recurses := true, named := ["unicode/utf8.first", "unicode/utf8.acceptRanges"], apart := false, laid := [("unicode/utf8.acceptRanges", laid_unicode_utf8_acceptRanges), ("unicode/utf8.first", laid_unicode_utf8_first)] }
def PropTwiceSaid : Prop := propTwiceRow.holds Tryd.pinned (OpenSpec.ofChange propTwiceSpec)

/-- ITS FALSE NEIGHBOUR: 'it returns false'. Refute it at one input. -/
def propTwiceWrong : ChangeSpec := { name := "propTwice", fn := fun _ => fun
  | [d1, d2] => { results := [.lit (.bool false)], args := [d1, d2] }
  | _ => none }
def PropTwiceWrongFalsely : Prop := propTwiceRow.holds Tryd.pinned (OpenSpec.ofChange propTwiceWrong)

/-- 'tidingslaw11.PropTable': WHATEVER THE INPUT: true; the input reads as it did. -/
def propTableSpec : ChangeSpec := { name := "propTable", fn := fun _ => fun
  | [] => { results := [.lit (.bool true)], args := [] }
  | _ => none }
def propTableRow : OpenClaim := { program := "ytpodhidabhnnnaadoor", sum := "874bae5d6a917169a8a4d14768a949aad4fbe792e8eb4a6c17578f8fc9ccfffa", func := "tidings/tidingslaw11.PropTable", spec := "propTable", unfollowed := true, recurses := true, named := ["unicode/utf8.first", "unicode/utf8.acceptRanges"], apart := false, laid := [("unicode/utf8.acceptRanges", laid_unicode_utf8_acceptRanges), ("unicode/utf8.first", laid_unicode_utf8_first)] }
def PropTableSaid : Prop := propTableRow.holds Tryd.pinned (OpenSpec.ofChange propTableSpec)

/-- ITS FALSE NEIGHBOUR: 'it returns false'. Refute it at one input. -/
def propTableWrong : ChangeSpec := { name := "propTable", fn := fun _ => fun
  | [] => { results := [.lit (.bool false)], args := [] }
  | _ => none }
def PropTableWrongFalsely : Prop := propTableRow.holds Tryd.pinned (OpenSpec.ofChange propTableWrong)

/-- 'tidingslaw11.PropLays': WHATEVER THE INPUT: true; the input reads as it did. -/
def propLaysSpec : ChangeSpec := { name := "propLays", fn := fun _ => fun
  | [d1, d2, d3, d4] => { results := [.lit (.bool true)], args := [d1, d2, d3, d4] }
  | _ => none }
def propLaysRow : OpenClaim := { program := "ytpodhidabhnnnaadoor", sum := "874bae5d6a917169a8a4d14768a949aad4fbe792e8eb4a6c17578f8fc9ccfffa", func := "tidings/tidingslaw11.PropLays", spec := "propLays", unfollowed := true, recurses := true, named := ["unicode/utf8.first", "unicode/utf8.acceptRanges"], apart := false, laid := [("unicode/utf8.acceptRanges", laid_unicode_utf8_acceptRanges), ("unicode/utf8.first", laid_unicode_utf8_first)] }
def PropLaysSaid : Prop := propLaysRow.holds Tryd.pinned (OpenSpec.ofChange propLaysSpec)

/-- ITS FALSE NEIGHBOUR: 'it returns false'. Refute it at one input. -/
def propLaysWrong : ChangeSpec := { name := "propLays", fn := fun _ => fun
  | [d1, d2, d3, d4] => { results := [.lit (.bool false)], args := [d1, d2, d3, d4] }
  | _ => none }
def PropLaysWrongFalsely : Prop := propLaysRow.holds Tryd.pinned (OpenSpec.ofChange propLaysWrong)

/- THE SECOND FORM. 'bulk': how many values and letters a reading holds, each counted each time it is reached (what is shared counts as often as it is met; a slice's spare places count too). A statement '..UptoSaid' is the law's where the arguments, and the package variables that the reading takes, are together of bulk at most 1048576: NARROWER than '..Said'. Prove '..Said' where nothing that the law and all that it calls make is longer than what came in: it says more and counts as full. Else prove '..UptoSaid'. A law counts once. -/
mutual
def uptoBulk {H : Type} : DataW H → Nat
  | .lit (.string bytes) => bytes.length + 1
  | .lit _ => 1
  | .nil => 1
  | .ptr d => uptoBulk d + 1
  | .slice elems spare => uptoBulkAll elems + uptoBulkAll spare + 1
  | .agg parts => uptoBulkAll parts + 1
  | .iface _ d => uptoBulk d + 1
  | .map entries => uptoBulkEntries entries + 1
  | .held _ => 1
def uptoBulkAll {H : Type} : List (DataW H) → Nat
  | [] => 0
  | d :: r => uptoBulk d + uptoBulkAll r
def uptoBulkEntries {H : Type} : List (Lit × DataW H) → Nat
  | [] => 0
  | x :: r => uptoBulkEntry x + uptoBulkEntries r
def uptoBulkEntry {H : Type} : Lit × DataW H → Nat
  | (.string bytes, d) => bytes.length + uptoBulk d + 1
  | (_, d) => uptoBulk d + 1
 end
def uptoSmall : (H : Type) → List (DataW H) → Bool := fun _ ds => decide (uptoBulkAll ds ≤ 1048576)
def OpenSpec.upto (s : _root_.Go.ChangeSpec) : _root_.Go.OpenSpec := { _root_.Go.OpenSpec.ofChange s with cond := some uptoSmall }

/-- 'tidingslaw11.PropReads', WHERE WHAT IT READS IS OF BULK AT MOST 1048576: true; the input reads as it did. -/
def propReadsUptoRow : OpenClaim := { program := "ytpodhidabhnnnaadoor", sum := "874bae5d6a917169a8a4d14768a949aad4fbe792e8eb4a6c17578f8fc9ccfffa", func := "tidings/tidingslaw11.PropReads", spec := "propReads", unfollowed := true, recurses := true, named := ["unicode/utf8.first", "unicode/utf8.acceptRanges"], apart := false, laid := [("unicode/utf8.acceptRanges", laid_unicode_utf8_acceptRanges), ("unicode/utf8.first", laid_unicode_utf8_first)], narrowed := true }
def PropReadsUptoSaid : Prop := propReadsUptoRow.holds Tryd.pinned (OpenSpec.upto propReadsSpec)

/-- 'tidingslaw11.PropBack', WHERE WHAT IT READS IS OF BULK AT MOST 1048576: true; the input reads as it did. -/
def propBackUptoRow : OpenClaim := { program := "ytpodhidabhnnnaadoor", sum := "874bae5d6a917169a8a4d14768a949aad4fbe792e8eb4a6c17578f8fc9ccfffa", func := "tidings/tidingslaw11.PropBack", spec := "propBack", unfollowed := true, recurses := true, named := ["unicode/utf8.first", "unicode/utf8.acceptRanges"], apart := false, laid := [("unicode/utf8.acceptRanges", laid_unicode_utf8_acceptRanges), ("unicode/utf8.first", laid_unicode_utf8_first)], narrowed := true }
def PropBackUptoSaid : Prop := propBackUptoRow.holds Tryd.pinned (OpenSpec.upto propBackSpec)

/-- 'tidingslaw11.PropTwice', WHERE WHAT IT READS IS OF BULK AT MOST 1048576: true; the input reads as it did. -/
def propTwiceUptoRow : OpenClaim := { program := "ytpodhidabhnnnaadoor", sum := "874bae5d6a917169a8a4d14768a949aad4fbe792e8eb4a6c17578f8fc9ccfffa", func := "tidings/tidingslaw11.PropTwice", spec := "propTwice", unfollowed := true, recurses := true, named := ["unicode/utf8.first", "unicode/utf8.acceptRanges"], apart := false, laid := [("unicode/utf8.acceptRanges", laid_unicode_utf8_acceptRanges), ("unicode/utf8.first", laid_unicode_utf8_first)], narrowed := true }
def PropTwiceUptoSaid : Prop := propTwiceUptoRow.holds Tryd.pinned (OpenSpec.upto propTwiceSpec)

/-- 'tidingslaw11.PropTable', WHERE WHAT IT READS IS OF BULK AT MOST 1048576: true; the input reads as it did. -/
def propTableUptoRow : OpenClaim := { program := "ytpodhidabhnnnaadoor", sum := "874bae5d6a917169a8a4d14768a949aad4fbe792e8eb4a6c17578f8fc9ccfffa", func := "tidings/tidingslaw11.PropTable", spec := "propTable", unfollowed := true, recurses := true, named := ["unicode/utf8.first", "unicode/utf8.acceptRanges"], apart := false, laid := [("unicode/utf8.acceptRanges", laid_unicode_utf8_acceptRanges), ("unicode/utf8.first", laid_unicode_utf8_first)], narrowed := true }
def PropTableUptoSaid : Prop := propTableUptoRow.holds Tryd.pinned (OpenSpec.upto propTableSpec)

/-- 'tidingslaw11.PropLays', WHERE WHAT IT READS IS OF BULK AT MOST 1048576: true; the input reads as it did. -/
def propLaysUptoRow : OpenClaim := { program := "ytpodhidabhnnnaadoor", sum := "874bae5d6a917169a8a4d14768a949aad4fbe792e8eb4a6c17578f8fc9ccfffa", func := "tidings/tidingslaw11.PropLays", spec := "propLays", unfollowed := true, recurses := true, named := ["unicode/utf8.first", "unicode/utf8.acceptRanges"], apart := false, laid := [("unicode/utf8.acceptRanges", laid_unicode_utf8_acceptRanges), ("unicode/utf8.first", laid_unicode_utf8_first)], narrowed := true }
def PropLaysUptoSaid : Prop := propLaysUptoRow.holds Tryd.pinned (OpenSpec.upto propLaysSpec)

end Rows
end Go.Proofs.YtpodhidabhnnnaaDoor

/-
  DERIVED. GIVEN WITH THE SEED: THE CARDS: each row of YtpodhidabhnnnaaDoorRows.lean that lists a variable, with what it lists TIED to the program's text (the seventh form; the later family's looks); each row that meets fmt, with fmt's text TOLD by the authors' own Lean function (tested against real Go, not proved from fmt's source: count such statements apart). THE CARD IS WHAT COUNTS. Prove the row's statement (the work); the ties are given (YtpodhidabhnnnaaDoorTie.lean); close each card by the builder's one call (the guide's Derived/Test/ToyasCard.lean, 'card_holds'). Laid BY PROGRAM, IN A SANDBOX (cutbox-door.mjs). By AI agents, Wed Nov 11 2026. No macro, syntax, notation, axiom, sorry.
-/
import Derived.Test.YtpodhidabhnnnaaDoorRows
import GoSem.ClaimSeven
namespace Go.Proofs.YtpodhidabhnnnaaDoor
namespace Rows

/-- THE TIED CARD OF 'tidingslaw11.PropReads'. -/
def propReadsCard : Claim7 := { stood := { row := propReadsRow, standIns := [], harness := (true, "ae0b6670f176a21d2a661f397d900c6a1b0dbcdcc9107b6ed8e01f2827337297"), looks := false }, kinds := [], alts := [], laidByText := true, laidKinds := [.data, .pinned], laidTests := true, laidLooks := .later }
def PropReadsCardSaid : Prop := Claim7.holds Tryd.pinned (.plain (OpenSpec.ofChange propReadsSpec)) propReadsCard

/-- THE TIED CARD OF 'tidingslaw11.PropBack'. -/
def propBackCard : Claim7 := { stood := { row := propBackRow, standIns := [], harness := (true, "ae0b6670f176a21d2a661f397d900c6a1b0dbcdcc9107b6ed8e01f2827337297"), looks := false }, kinds := [], alts := [], laidByText := true, laidKinds := [.data, .pinned], laidTests := true, laidLooks := .later }
def PropBackCardSaid : Prop := Claim7.holds Tryd.pinned (.plain (OpenSpec.ofChange propBackSpec)) propBackCard

/-- THE TIED CARD OF 'tidingslaw11.PropTwice'. -/
def propTwiceCard : Claim7 := { stood := { row := propTwiceRow, standIns := [], harness := (true, "ae0b6670f176a21d2a661f397d900c6a1b0dbcdcc9107b6ed8e01f2827337297"), looks := false }, kinds := [], alts := [], laidByText := true, laidKinds := [.data, .pinned], laidTests := true, laidLooks := .later }
def PropTwiceCardSaid : Prop := Claim7.holds Tryd.pinned (.plain (OpenSpec.ofChange propTwiceSpec)) propTwiceCard

/-- THE TIED CARD OF 'tidingslaw11.PropTable'. -/
def propTableCard : Claim7 := { stood := { row := propTableRow, standIns := [], harness := (true, "ae0b6670f176a21d2a661f397d900c6a1b0dbcdcc9107b6ed8e01f2827337297"), looks := false }, kinds := [], alts := [], laidByText := true, laidKinds := [.data, .pinned], laidTests := true, laidLooks := .later }
def PropTableCardSaid : Prop := Claim7.holds Tryd.pinned (.plain (OpenSpec.ofChange propTableSpec)) propTableCard

/-- THE TIED CARD OF 'tidingslaw11.PropLays'. -/
def propLaysCard : Claim7 := { stood := { row := propLaysRow, standIns := [], harness := (true, "ae0b6670f176a21d2a661f397d900c6a1b0dbcdcc9107b6ed8e01f2827337297"), looks := false }, kinds := [], alts := [], laidByText := true, laidKinds := [.data, .pinned], laidTests := true, laidLooks := .later }
def PropLaysCardSaid : Prop := Claim7.holds Tryd.pinned (.plain (OpenSpec.ofChange propLaysSpec)) propLaysCard

/-- THE SECOND FORM's CARD OF 'tidingslaw11.PropReads'. -/
def propReadsUptoCard : Claim7 := { stood := { row := propReadsUptoRow, standIns := [], harness := (true, "ae0b6670f176a21d2a661f397d900c6a1b0dbcdcc9107b6ed8e01f2827337297"), looks := false }, kinds := [], alts := [], laidByText := true, laidKinds := [.data, .pinned], laidTests := true, laidLooks := .later }
def PropReadsUptoCardSaid : Prop := Claim7.holds Tryd.pinned (.plain (OpenSpec.upto propReadsSpec)) propReadsUptoCard

/-- THE SECOND FORM's CARD OF 'tidingslaw11.PropBack'. -/
def propBackUptoCard : Claim7 := { stood := { row := propBackUptoRow, standIns := [], harness := (true, "ae0b6670f176a21d2a661f397d900c6a1b0dbcdcc9107b6ed8e01f2827337297"), looks := false }, kinds := [], alts := [], laidByText := true, laidKinds := [.data, .pinned], laidTests := true, laidLooks := .later }
def PropBackUptoCardSaid : Prop := Claim7.holds Tryd.pinned (.plain (OpenSpec.upto propBackSpec)) propBackUptoCard

/-- THE SECOND FORM's CARD OF 'tidingslaw11.PropTwice'. -/
def propTwiceUptoCard : Claim7 := { stood := { row := propTwiceUptoRow, standIns := [], harness := (true, "ae0b6670f176a21d2a661f397d900c6a1b0dbcdcc9107b6ed8e01f2827337297"), looks := false }, kinds := [], alts := [], laidByText := true, laidKinds := [.data, .pinned], laidTests := true, laidLooks := .later }
def PropTwiceUptoCardSaid : Prop := Claim7.holds Tryd.pinned (.plain (OpenSpec.upto propTwiceSpec)) propTwiceUptoCard

/-- THE SECOND FORM's CARD OF 'tidingslaw11.PropTable'. -/
def propTableUptoCard : Claim7 := { stood := { row := propTableUptoRow, standIns := [], harness := (true, "ae0b6670f176a21d2a661f397d900c6a1b0dbcdcc9107b6ed8e01f2827337297"), looks := false }, kinds := [], alts := [], laidByText := true, laidKinds := [.data, .pinned], laidTests := true, laidLooks := .later }
def PropTableUptoCardSaid : Prop := Claim7.holds Tryd.pinned (.plain (OpenSpec.upto propTableSpec)) propTableUptoCard

/-- THE SECOND FORM's CARD OF 'tidingslaw11.PropLays'. -/
def propLaysUptoCard : Claim7 := { stood := { row := propLaysUptoRow, standIns := [], harness := (true, "ae0b6670f176a21d2a661f397d900c6a1b0dbcdcc9107b6ed8e01f2827337297"), looks := false }, kinds := [], alts := [], laidByText := true, laidKinds := [.data, .pinned], laidTests := true, laidLooks := .later }
def PropLaysUptoCardSaid : Prop := Claim7.holds Tryd.pinned (.plain (OpenSpec.upto propLaysSpec)) propLaysUptoCard
end Rows
end Go.Proofs.YtpodhidabhnnnaaDoor

/-
  DERIVED. GIVEN WITH THE SEED: THE CARDS: each row of YtgdfieolfhbmiaaDoorRows.lean that lists a variable, with what it lists TIED to the program's text (the seventh form; the later family's looks); each row that meets fmt, with fmt's text TOLD by the authors' own Lean function (tested against real Go, not proved from fmt's source: count such statements apart). THE CARD IS WHAT COUNTS. Prove the row's statement (the work); the ties are given (YtgdfieolfhbmiaaDoorTie.lean); close each card by the builder's one call (the guide's Derived/Test/ToyasCard.lean, 'card_holds'). Laid BY PROGRAM, IN A SANDBOX (cutbox-door.mjs). By AI agents, Wed Nov 11 2026. No macro, syntax, notation, axiom, sorry.
-/
import Derived.Test.YtgdfieolfhbmiaaDoorRows
import GoSem.ClaimSeven
namespace Go.Proofs.YtgdfieolfhbmiaaDoor
namespace Rows

/-- THE TIED CARD OF 'tidingslaw01.OctetSums'. -/
def octetSumsCard : Claim7 := { stood := { row := octetSumsRow, standIns := [], harness := (true, "54fe06c608520540f7125f0c198208050cdbd82548b42916257bfc8d7d7cc727"), looks := false }, kinds := [], alts := [], laidByText := true, laidKinds := [.data, .pinned], laidTests := true, laidLooks := .later }
def OctetSumsCardSaid : Prop := Claim7.holds Tryd.pinned (.plain (OpenSpec.ofChange octetSumsSpec)) octetSumsCard

/-- THE TIED CARD OF 'tidingslaw01.OctetFewest'. -/
def octetFewestCard : Claim7 := { stood := { row := octetFewestRow, standIns := [], harness := (true, "54fe06c608520540f7125f0c198208050cdbd82548b42916257bfc8d7d7cc727"), looks := false }, kinds := [], alts := [], laidByText := true, laidKinds := [.data, .pinned], laidTests := true, laidLooks := .later }
def OctetFewestCardSaid : Prop := Claim7.holds Tryd.pinned (.plain (OpenSpec.ofChange octetFewestSpec)) octetFewestCard

/-- THE TIED CARD OF 'tidingslaw01.OctetEnds'. -/
def octetEndsCard : Claim7 := { stood := { row := octetEndsRow, standIns := [], harness := (true, "54fe06c608520540f7125f0c198208050cdbd82548b42916257bfc8d7d7cc727"), looks := false }, kinds := [], alts := [], laidByText := true, laidKinds := [.data, .pinned], laidTests := true, laidLooks := .later }
def OctetEndsCardSaid : Prop := Claim7.holds Tryd.pinned (.plain (OpenSpec.ofChange octetEndsSpec)) octetEndsCard

/-- THE TIED CARD OF 'tidingslaw01.OctetNumbers'. -/
def octetNumbersCard : Claim7 := { stood := { row := octetNumbersRow, standIns := [], harness := (true, "54fe06c608520540f7125f0c198208050cdbd82548b42916257bfc8d7d7cc727"), looks := false }, kinds := [], alts := [], laidByText := true, laidKinds := [.data, .pinned], laidTests := true, laidLooks := .later }
def OctetNumbersCardSaid : Prop := Claim7.holds Tryd.pinned (.plain (OpenSpec.ofChange octetNumbersSpec)) octetNumbersCard

/-- THE TIED CARD OF 'tidingslaw01.OctetTexts'. -/
def octetTextsCard : Claim7 := { stood := { row := octetTextsRow, standIns := [], harness := (true, "54fe06c608520540f7125f0c198208050cdbd82548b42916257bfc8d7d7cc727"), looks := false }, kinds := [], alts := [], laidByText := true, laidKinds := [.data, .pinned], laidTests := true, laidLooks := .later }
def OctetTextsCardSaid : Prop := Claim7.holds Tryd.pinned (.plain (OpenSpec.ofChange octetTextsSpec)) octetTextsCard

/-- THE TIED CARD OF 'tidingslaw01.OctetBack'. -/
def octetBackCard : Claim7 := { stood := { row := octetBackRow, standIns := [], harness := (true, "54fe06c608520540f7125f0c198208050cdbd82548b42916257bfc8d7d7cc727"), looks := false }, kinds := [], alts := [], laidByText := true, laidKinds := [.data, .pinned], laidTests := true, laidLooks := .later }
def OctetBackCardSaid : Prop := Claim7.holds Tryd.pinned (.plain (OpenSpec.ofChange octetBackSpec)) octetBackCard

/-- THE SECOND FORM's CARD OF 'tidingslaw01.OctetSums'. -/
def octetSumsUptoCard : Claim7 := { stood := { row := octetSumsUptoRow, standIns := [], harness := (true, "54fe06c608520540f7125f0c198208050cdbd82548b42916257bfc8d7d7cc727"), looks := false }, kinds := [], alts := [], laidByText := true, laidKinds := [.data, .pinned], laidTests := true, laidLooks := .later }
def OctetSumsUptoCardSaid : Prop := Claim7.holds Tryd.pinned (.plain (OpenSpec.upto octetSumsSpec)) octetSumsUptoCard

/-- THE SECOND FORM's CARD OF 'tidingslaw01.OctetFewest'. -/
def octetFewestUptoCard : Claim7 := { stood := { row := octetFewestUptoRow, standIns := [], harness := (true, "54fe06c608520540f7125f0c198208050cdbd82548b42916257bfc8d7d7cc727"), looks := false }, kinds := [], alts := [], laidByText := true, laidKinds := [.data, .pinned], laidTests := true, laidLooks := .later }
def OctetFewestUptoCardSaid : Prop := Claim7.holds Tryd.pinned (.plain (OpenSpec.upto octetFewestSpec)) octetFewestUptoCard

/-- THE SECOND FORM's CARD OF 'tidingslaw01.OctetEnds'. -/
def octetEndsUptoCard : Claim7 := { stood := { row := octetEndsUptoRow, standIns := [], harness := (true, "54fe06c608520540f7125f0c198208050cdbd82548b42916257bfc8d7d7cc727"), looks := false }, kinds := [], alts := [], laidByText := true, laidKinds := [.data, .pinned], laidTests := true, laidLooks := .later }
def OctetEndsUptoCardSaid : Prop := Claim7.holds Tryd.pinned (.plain (OpenSpec.upto octetEndsSpec)) octetEndsUptoCard

/-- THE SECOND FORM's CARD OF 'tidingslaw01.OctetNumbers'. -/
def octetNumbersUptoCard : Claim7 := { stood := { row := octetNumbersUptoRow, standIns := [], harness := (true, "54fe06c608520540f7125f0c198208050cdbd82548b42916257bfc8d7d7cc727"), looks := false }, kinds := [], alts := [], laidByText := true, laidKinds := [.data, .pinned], laidTests := true, laidLooks := .later }
def OctetNumbersUptoCardSaid : Prop := Claim7.holds Tryd.pinned (.plain (OpenSpec.upto octetNumbersSpec)) octetNumbersUptoCard

/-- THE SECOND FORM's CARD OF 'tidingslaw01.OctetTexts'. -/
def octetTextsUptoCard : Claim7 := { stood := { row := octetTextsUptoRow, standIns := [], harness := (true, "54fe06c608520540f7125f0c198208050cdbd82548b42916257bfc8d7d7cc727"), looks := false }, kinds := [], alts := [], laidByText := true, laidKinds := [.data, .pinned], laidTests := true, laidLooks := .later }
def OctetTextsUptoCardSaid : Prop := Claim7.holds Tryd.pinned (.plain (OpenSpec.upto octetTextsSpec)) octetTextsUptoCard

/-- THE SECOND FORM's CARD OF 'tidingslaw01.OctetBack'. -/
def octetBackUptoCard : Claim7 := { stood := { row := octetBackUptoRow, standIns := [], harness := (true, "54fe06c608520540f7125f0c198208050cdbd82548b42916257bfc8d7d7cc727"), looks := false }, kinds := [], alts := [], laidByText := true, laidKinds := [.data, .pinned], laidTests := true, laidLooks := .later }
def OctetBackUptoCardSaid : Prop := Claim7.holds Tryd.pinned (.plain (OpenSpec.upto octetBackSpec)) octetBackUptoCard
end Rows
end Go.Proofs.YtgdfieolfhbmiaaDoor

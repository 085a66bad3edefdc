/-
  DERIVED. GIVEN WITH THE SEED: THE CARDS: each row of YtbfelcgjocpgaaaDoorRows.lean that lists a variable, with what it lists TIED to the program's text (the seventh form; the later family's looks); each row that meets fmt, with fmt's text TOLD by the authors' own Lean function (tested against real Go, not proved from fmt's source: count such statements apart). THE CARD IS WHAT COUNTS. Prove the row's statement (the work); the ties are given (YtbfelcgjocpgaaaDoorTie.lean); close each card by the builder's one call (the guide's Derived/Test/ToyasCard.lean, 'card_holds'). Laid BY PROGRAM, IN A SANDBOX (cutbox-door.mjs). By AI agents, Wed Nov 11 2026. No macro, syntax, notation, axiom, sorry.
-/
import Derived.Test.YtbfelcgjocpgaaaDoorRows
import GoSem.ClaimSeven
namespace Go.Proofs.YtbfelcgjocpgaaaDoor
namespace Rows

/-- THE TIED CARD OF 'tidingslaw22.ProofEnters'. -/
def proofEntersCard : Claim7 := { stood := { row := proofEntersRow, standIns := [], harness := (true, "11b95a8e526022181550089c924df1da3e2aed5e04b769e9d52aa97a10521695"), looks := false }, kinds := [], alts := [], laidByText := true, laidKinds := [.data, .pinned], laidTests := true, laidLooks := .later }
def ProofEntersCardSaid : Prop := Claim7.holds Tryd.pinned (.plain (OpenSpec.ofChange proofEntersSpec)) proofEntersCard

/-- THE TIED CARD OF 'tidingslaw22.ProofOne'. -/
def proofOneCard : Claim7 := { stood := { row := proofOneRow, standIns := [], harness := (true, "11b95a8e526022181550089c924df1da3e2aed5e04b769e9d52aa97a10521695"), looks := false }, kinds := [], alts := [], laidByText := true, laidKinds := [.data, .pinned], laidTests := true, laidLooks := .later }
def ProofOneCardSaid : Prop := Claim7.holds Tryd.pinned (.plain (OpenSpec.ofChange proofOneSpec)) proofOneCard

/-- THE TIED CARD OF 'tidingslaw22.ProofDoors'. -/
def proofDoorsCard : Claim7 := { stood := { row := proofDoorsRow, standIns := [], harness := (true, "11b95a8e526022181550089c924df1da3e2aed5e04b769e9d52aa97a10521695"), looks := false }, kinds := [], alts := [], laidByText := true, laidKinds := [.data, .pinned], laidTests := true, laidLooks := .later }
def ProofDoorsCardSaid : Prop := Claim7.holds Tryd.pinned (.plain (OpenSpec.ofChange proofDoorsSpec)) proofDoorsCard

/-- THE SECOND FORM's CARD OF 'tidingslaw22.ProofEnters'. -/
def proofEntersUptoCard : Claim7 := { stood := { row := proofEntersUptoRow, standIns := [], harness := (true, "11b95a8e526022181550089c924df1da3e2aed5e04b769e9d52aa97a10521695"), looks := false }, kinds := [], alts := [], laidByText := true, laidKinds := [.data, .pinned], laidTests := true, laidLooks := .later }
def ProofEntersUptoCardSaid : Prop := Claim7.holds Tryd.pinned (.plain (OpenSpec.upto proofEntersSpec)) proofEntersUptoCard

/-- THE SECOND FORM's CARD OF 'tidingslaw22.ProofOne'. -/
def proofOneUptoCard : Claim7 := { stood := { row := proofOneUptoRow, standIns := [], harness := (true, "11b95a8e526022181550089c924df1da3e2aed5e04b769e9d52aa97a10521695"), looks := false }, kinds := [], alts := [], laidByText := true, laidKinds := [.data, .pinned], laidTests := true, laidLooks := .later }
def ProofOneUptoCardSaid : Prop := Claim7.holds Tryd.pinned (.plain (OpenSpec.upto proofOneSpec)) proofOneUptoCard

/-- THE SECOND FORM's CARD OF 'tidingslaw22.ProofDoors'. -/
def proofDoorsUptoCard : Claim7 := { stood := { row := proofDoorsUptoRow, standIns := [], harness := (true, "11b95a8e526022181550089c924df1da3e2aed5e04b769e9d52aa97a10521695"), looks := false }, kinds := [], alts := [], laidByText := true, laidKinds := [.data, .pinned], laidTests := true, laidLooks := .later }
def ProofDoorsUptoCardSaid : Prop := Claim7.holds Tryd.pinned (.plain (OpenSpec.upto proofDoorsSpec)) proofDoorsUptoCard
end Rows
end Go.Proofs.YtbfelcgjocpgaaaDoor

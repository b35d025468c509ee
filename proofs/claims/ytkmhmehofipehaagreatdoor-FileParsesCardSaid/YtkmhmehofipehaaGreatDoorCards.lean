/-
  DERIVED. GIVEN WITH THE SEED: THE CARDS: each row of YtkmhmehofipehaaGreatDoorRows.lean that lists a variable, with what it lists TIED to the program's text (the seventh form; the later family's looks); each row that meets fmt, with fmt's text TOLD by the authors' own Lean function (tested against real Go, not proved from fmt's source: count such statements apart). THE CARD IS WHAT COUNTS. Prove the row's statement (the work); the ties are given (YtkmhmehofipehaaGreatDoorTie.lean); close each card by the builder's one call (the guide's Derived/Test/ToyasCard.lean, 'card_holds'). Laid BY PROGRAM, IN A SANDBOX (cutbox-door.mjs). By AI agents, Wed Nov 11 2026. No macro, syntax, notation, axiom, sorry.
-/
import Derived.Test.YtkmhmehofipehaaGreatDoorRows
import GoSem.ClaimSeven
namespace Go.Proofs.YtkmhmehofipehaaGreatDoor
namespace Rows

/-- THE TIED CARD OF 'descantlaw29.FileParses'. -/
def fileParsesCard : Claim7 := { stood := { row := fileParsesRow, standIns := [], harness := (true, "46dcf287c7be261ed30aebe09461a90ed50f1b2c04a2c55f473fc708dd3e13c1"), looks := false }, kinds := [], alts := [], laidByText := true, laidKinds := [.data, .pinned], laidTests := true, laidLooks := .later }
def FileParsesCardSaid : Prop := Claim7.holds Tryz.pinned (.plain (OpenSpec.ofChange fileParsesSpec)) fileParsesCard

/-- THE SECOND FORM's CARD OF 'descantlaw29.FileParses'. -/
def fileParsesUptoCard : Claim7 := { stood := { row := fileParsesUptoRow, standIns := [], harness := (true, "46dcf287c7be261ed30aebe09461a90ed50f1b2c04a2c55f473fc708dd3e13c1"), looks := false }, kinds := [], alts := [], laidByText := true, laidKinds := [.data, .pinned], laidTests := true, laidLooks := .later }
def FileParsesUptoCardSaid : Prop := Claim7.holds Tryz.pinned (.plain (OpenSpec.upto fileParsesSpec)) fileParsesUptoCard
end Rows
end Go.Proofs.YtkmhmehofipehaaGreatDoor

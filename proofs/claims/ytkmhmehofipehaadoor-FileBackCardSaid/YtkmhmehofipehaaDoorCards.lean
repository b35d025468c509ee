/-
  DERIVED. GIVEN WITH THE SEED: THE CARDS: each row of YtkmhmehofipehaaDoorRows.lean that lists a variable, with what it lists TIED to the program's text (the seventh form; the later family's looks); each row that meets fmt, with fmt's text TOLD by the authors' own Lean function (tested against real Go, not proved from fmt's source: count such statements apart). THE CARD IS WHAT COUNTS. Prove the row's statement (the work); the ties are given (YtkmhmehofipehaaDoorTie.lean); close each card by the builder's one call (the guide's Derived/Test/ToyasCard.lean, 'card_holds'). Laid BY PROGRAM, IN A SANDBOX (cutbox-door.mjs). By AI agents, Wed Nov 11 2026. No macro, syntax, notation, axiom, sorry.
-/
import Derived.Test.YtkmhmehofipehaaDoorRows
import GoSem.ClaimSeven
namespace Go.Proofs.YtkmhmehofipehaaDoor
namespace Rows

/-- THE TIED CARD OF 'descantlaw29.FileBuilds'. -/
def fileBuildsCard : Claim7 := { stood := { row := fileBuildsRow, standIns := [], harness := (true, "7a4e76015f6e7b4d5daec8ed83e84b335c4f2217c80cda7932918acff7a6dbf1"), looks := false }, kinds := [], alts := [], laidByText := true, laidKinds := [.data, .pinned], laidTests := true, laidLooks := .later }
def FileBuildsCardSaid : Prop := Claim7.holds Tryd.pinned (.plain (OpenSpec.ofChange fileBuildsSpec)) fileBuildsCard

/-- THE TIED CARD OF 'descantlaw29.FileBack'. -/
def fileBackCard : Claim7 := { stood := { row := fileBackRow, standIns := [], harness := (true, "7a4e76015f6e7b4d5daec8ed83e84b335c4f2217c80cda7932918acff7a6dbf1"), looks := false }, kinds := [], alts := [], laidByText := true, laidKinds := [.data, .pinned], laidTests := true, laidLooks := .later }
def FileBackCardSaid : Prop := Claim7.holds Tryd.pinned (.plain (OpenSpec.ofChange fileBackSpec)) fileBackCard

/-- THE TIED CARD OF 'descantlaw29.FileCuts'. -/
def fileCutsCard : Claim7 := { stood := { row := fileCutsRow, standIns := [], harness := (true, "7a4e76015f6e7b4d5daec8ed83e84b335c4f2217c80cda7932918acff7a6dbf1"), looks := false }, kinds := [], alts := [], laidByText := true, laidKinds := [.data, .pinned], laidTests := true, laidLooks := .later }
def FileCutsCardSaid : Prop := Claim7.holds Tryd.pinned (.plain (OpenSpec.ofChange fileCutsSpec)) fileCutsCard

/-- THE TIED CARD OF 'descantlaw29.FileNil'. -/
def fileNilCard : Claim7 := { stood := { row := fileNilRow, standIns := [], harness := (true, "7a4e76015f6e7b4d5daec8ed83e84b335c4f2217c80cda7932918acff7a6dbf1"), looks := false }, kinds := [], alts := [], laidByText := true, laidKinds := [.data, .pinned], laidTests := true, laidLooks := .later }
def FileNilCardSaid : Prop := Claim7.holds Tryd.pinned (.plain (OpenSpec.ofChange fileNilSpec)) fileNilCard

/-- THE SECOND FORM's CARD OF 'descantlaw29.FileBuilds'. -/
def fileBuildsUptoCard : Claim7 := { stood := { row := fileBuildsUptoRow, standIns := [], harness := (true, "7a4e76015f6e7b4d5daec8ed83e84b335c4f2217c80cda7932918acff7a6dbf1"), looks := false }, kinds := [], alts := [], laidByText := true, laidKinds := [.data, .pinned], laidTests := true, laidLooks := .later }
def FileBuildsUptoCardSaid : Prop := Claim7.holds Tryd.pinned (.plain (OpenSpec.upto fileBuildsSpec)) fileBuildsUptoCard

/-- THE SECOND FORM's CARD OF 'descantlaw29.FileBack'. -/
def fileBackUptoCard : Claim7 := { stood := { row := fileBackUptoRow, standIns := [], harness := (true, "7a4e76015f6e7b4d5daec8ed83e84b335c4f2217c80cda7932918acff7a6dbf1"), looks := false }, kinds := [], alts := [], laidByText := true, laidKinds := [.data, .pinned], laidTests := true, laidLooks := .later }
def FileBackUptoCardSaid : Prop := Claim7.holds Tryd.pinned (.plain (OpenSpec.upto fileBackSpec)) fileBackUptoCard

/-- THE SECOND FORM's CARD OF 'descantlaw29.FileCuts'. -/
def fileCutsUptoCard : Claim7 := { stood := { row := fileCutsUptoRow, standIns := [], harness := (true, "7a4e76015f6e7b4d5daec8ed83e84b335c4f2217c80cda7932918acff7a6dbf1"), looks := false }, kinds := [], alts := [], laidByText := true, laidKinds := [.data, .pinned], laidTests := true, laidLooks := .later }
def FileCutsUptoCardSaid : Prop := Claim7.holds Tryd.pinned (.plain (OpenSpec.upto fileCutsSpec)) fileCutsUptoCard

/-- THE SECOND FORM's CARD OF 'descantlaw29.FileNil'. -/
def fileNilUptoCard : Claim7 := { stood := { row := fileNilUptoRow, standIns := [], harness := (true, "7a4e76015f6e7b4d5daec8ed83e84b335c4f2217c80cda7932918acff7a6dbf1"), looks := false }, kinds := [], alts := [], laidByText := true, laidKinds := [.data, .pinned], laidTests := true, laidLooks := .later }
def FileNilUptoCardSaid : Prop := Claim7.holds Tryd.pinned (.plain (OpenSpec.upto fileNilSpec)) fileNilUptoCard
end Rows
end Go.Proofs.YtkmhmehofipehaaDoor

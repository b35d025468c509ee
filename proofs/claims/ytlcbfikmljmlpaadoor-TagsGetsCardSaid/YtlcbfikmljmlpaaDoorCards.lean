/-
  DERIVED. GIVEN WITH THE SEED: THE CARDS: each row of YtlcbfikmljmlpaaDoorRows.lean that lists a variable, with what it lists TIED to the program's text (the seventh form; the later family's looks); each row that meets fmt, with fmt's text TOLD by the authors' own Lean function (tested against real Go, not proved from fmt's source: count such statements apart). THE CARD IS WHAT COUNTS. Prove the row's statement (the work); the ties are given (YtlcbfikmljmlpaaDoorTie.lean); close each card by the builder's one call (the guide's Derived/Test/ToyasCard.lean, 'card_holds'). Laid BY PROGRAM, IN A SANDBOX (cutbox-door.mjs). By AI agents, Wed Nov 11 2026. No macro, syntax, notation, axiom, sorry.
-/
import Derived.Test.YtlcbfikmljmlpaaDoorRows
import GoSem.ClaimSeven
namespace Go.Proofs.YtlcbfikmljmlpaaDoor
namespace Rows

/-- THE TIED CARD OF 'descantlaw26.TagsCheck'. -/
def tagsCheckCard : Claim7 := { stood := { row := tagsCheckRow, standIns := [], harness := (true, "91bf2bc77b291153f0033dc63ee41f0962bd1a004311ccf20309c235f4591506"), looks := false }, kinds := [], alts := [], laidByText := true, laidKinds := [.data, .pinned], laidTests := true, laidLooks := .later }
def TagsCheckCardSaid : Prop := Claim7.holds Tryd.pinned (.plain (OpenSpec.ofChange tagsCheckSpec)) tagsCheckCard

/-- THE TIED CARD OF 'descantlaw26.TagsSet'. -/
def tagsSetCard : Claim7 := { stood := { row := tagsSetRow, standIns := [], harness := (true, "91bf2bc77b291153f0033dc63ee41f0962bd1a004311ccf20309c235f4591506"), looks := false }, kinds := [], alts := [], laidByText := true, laidKinds := [.data, .pinned], laidTests := true, laidLooks := .later }
def TagsSetCardSaid : Prop := Claim7.holds Tryd.pinned (.plain (OpenSpec.ofChange tagsSetSpec)) tagsSetCard

/-- THE TIED CARD OF 'descantlaw26.TagsFinds'. -/
def tagsFindsCard : Claim7 := { stood := { row := tagsFindsRow, standIns := [], harness := (true, "91bf2bc77b291153f0033dc63ee41f0962bd1a004311ccf20309c235f4591506"), looks := false }, kinds := [], alts := [], laidByText := true, laidKinds := [.data, .pinned], laidTests := true, laidLooks := .later }
def TagsFindsCardSaid : Prop := Claim7.holds Tryd.pinned (.plain (OpenSpec.ofChange tagsFindsSpec)) tagsFindsCard

/-- THE TIED CARD OF 'descantlaw26.TagsNil'. -/
def tagsNilCard : Claim7 := { stood := { row := tagsNilRow, standIns := [], harness := (true, "91bf2bc77b291153f0033dc63ee41f0962bd1a004311ccf20309c235f4591506"), looks := false }, kinds := [], alts := [], laidByText := true, laidKinds := [.data, .pinned], laidTests := true, laidLooks := .later }
def TagsNilCardSaid : Prop := Claim7.holds Tryd.pinned (.plain (OpenSpec.ofChange tagsNilSpec)) tagsNilCard

/-- THE TIED CARD OF 'descantlaw26.TagsPuts'. -/
def tagsPutsCard : Claim7 := { stood := { row := tagsPutsRow, standIns := [], harness := (true, "91bf2bc77b291153f0033dc63ee41f0962bd1a004311ccf20309c235f4591506"), looks := false }, kinds := [], alts := [], laidByText := true, laidKinds := [.data, .pinned], laidTests := true, laidLooks := .later }
def TagsPutsCardSaid : Prop := Claim7.holds Tryd.pinned (.plain (OpenSpec.ofChange tagsPutsSpec)) tagsPutsCard

/-- THE TIED CARD OF 'descantlaw26.TagsGets'. -/
def tagsGetsCard : Claim7 := { stood := { row := tagsGetsRow, standIns := [], harness := (true, "91bf2bc77b291153f0033dc63ee41f0962bd1a004311ccf20309c235f4591506"), looks := false }, kinds := [], alts := [], laidByText := true, laidKinds := [.data, .pinned], laidTests := true, laidLooks := .later }
def TagsGetsCardSaid : Prop := Claim7.holds Tryd.pinned (.plain (OpenSpec.ofChange tagsGetsSpec)) tagsGetsCard

/-- THE SECOND FORM's CARD OF 'descantlaw26.TagsCheck'. -/
def tagsCheckUptoCard : Claim7 := { stood := { row := tagsCheckUptoRow, standIns := [], harness := (true, "91bf2bc77b291153f0033dc63ee41f0962bd1a004311ccf20309c235f4591506"), looks := false }, kinds := [], alts := [], laidByText := true, laidKinds := [.data, .pinned], laidTests := true, laidLooks := .later }
def TagsCheckUptoCardSaid : Prop := Claim7.holds Tryd.pinned (.plain (OpenSpec.upto tagsCheckSpec)) tagsCheckUptoCard

/-- THE SECOND FORM's CARD OF 'descantlaw26.TagsSet'. -/
def tagsSetUptoCard : Claim7 := { stood := { row := tagsSetUptoRow, standIns := [], harness := (true, "91bf2bc77b291153f0033dc63ee41f0962bd1a004311ccf20309c235f4591506"), looks := false }, kinds := [], alts := [], laidByText := true, laidKinds := [.data, .pinned], laidTests := true, laidLooks := .later }
def TagsSetUptoCardSaid : Prop := Claim7.holds Tryd.pinned (.plain (OpenSpec.upto tagsSetSpec)) tagsSetUptoCard

/-- THE SECOND FORM's CARD OF 'descantlaw26.TagsFinds'. -/
def tagsFindsUptoCard : Claim7 := { stood := { row := tagsFindsUptoRow, standIns := [], harness := (true, "91bf2bc77b291153f0033dc63ee41f0962bd1a004311ccf20309c235f4591506"), looks := false }, kinds := [], alts := [], laidByText := true, laidKinds := [.data, .pinned], laidTests := true, laidLooks := .later }
def TagsFindsUptoCardSaid : Prop := Claim7.holds Tryd.pinned (.plain (OpenSpec.upto tagsFindsSpec)) tagsFindsUptoCard

/-- THE SECOND FORM's CARD OF 'descantlaw26.TagsNil'. -/
def tagsNilUptoCard : Claim7 := { stood := { row := tagsNilUptoRow, standIns := [], harness := (true, "91bf2bc77b291153f0033dc63ee41f0962bd1a004311ccf20309c235f4591506"), looks := false }, kinds := [], alts := [], laidByText := true, laidKinds := [.data, .pinned], laidTests := true, laidLooks := .later }
def TagsNilUptoCardSaid : Prop := Claim7.holds Tryd.pinned (.plain (OpenSpec.upto tagsNilSpec)) tagsNilUptoCard

/-- THE SECOND FORM's CARD OF 'descantlaw26.TagsPuts'. -/
def tagsPutsUptoCard : Claim7 := { stood := { row := tagsPutsUptoRow, standIns := [], harness := (true, "91bf2bc77b291153f0033dc63ee41f0962bd1a004311ccf20309c235f4591506"), looks := false }, kinds := [], alts := [], laidByText := true, laidKinds := [.data, .pinned], laidTests := true, laidLooks := .later }
def TagsPutsUptoCardSaid : Prop := Claim7.holds Tryd.pinned (.plain (OpenSpec.upto tagsPutsSpec)) tagsPutsUptoCard

/-- THE SECOND FORM's CARD OF 'descantlaw26.TagsGets'. -/
def tagsGetsUptoCard : Claim7 := { stood := { row := tagsGetsUptoRow, standIns := [], harness := (true, "91bf2bc77b291153f0033dc63ee41f0962bd1a004311ccf20309c235f4591506"), looks := false }, kinds := [], alts := [], laidByText := true, laidKinds := [.data, .pinned], laidTests := true, laidLooks := .later }
def TagsGetsUptoCardSaid : Prop := Claim7.holds Tryd.pinned (.plain (OpenSpec.upto tagsGetsSpec)) tagsGetsUptoCard
end Rows
end Go.Proofs.YtlcbfikmljmlpaaDoor

/-
  NARROWER THAN 'FOR EVERY INPUT', by the rows' own cells (each row's printed sentence says how): TagsCheck: laid · TagsSet: laid · TagsFinds: laid · TagsNil: laid · TagsPuts: laid · TagsGets: laid.
  DERIVED. THE GIVEN ROWS OF THIS SEAT. 6 by the template 'for every input the law returns true; each argument reads behind the call as it read before'; 0 by the template 'total and deterministic' (their statements: YtlcbfikmljmlpaaDoorTotals.lean).
  GIVEN WITH THE SEED: the statements are not yours to turn. If you find one false, say at which input.
  Laid BY PROGRAM, IN A SANDBOX (cutbox-rows.mjs): the forced cells as the released guide's own fill.sh prints them over the translation 7f2c1db5e1482ad3… (all of the seat's roots in one cut). By AI agents, Wed Nov 11 2026. No macro, syntax, notation, axiom, sorry.
-/
import Derived.Test.YtlcbfikmljmlpaaDoorChecked
import GoSem.PinnedTables
import GoSem.Claim
import GoSem.ClaimJoined
import GoSem.ClaimMapViews
import Derived.JoinedTies
import Derived.KernelRfl
namespace Go.Proofs.YtlcbfikmljmlpaaDoor
/- THE CELL 'sum', in the pinned program and in every row, IS THE sha256 OF THE DUMP (.gsa) THAT YtlcbfikmljmlpaaDoorProg.lean LOADS. Nothing in Lean hashes anything: it is a label: what it is worth is what the hold of that sum in a sandbox is worth. -/
noncomputable def Tryd.pinned : Pinned := { name := "ytlcbfikmljmlpaadoor", sum := "7f2c1db5e1482ad3387de335b78cbd8baaf715cbaf4bb0bd9393b4772e33b5fc", checked := Tryd.checked }
namespace Rows
def none {H : Type} : Left H := { results := [], args := [] }

/- WHAT THE LISTED PACKAGE-LEVEL VARIABLES READ AS WHEN THE CALL BEGINS. Each datum BY PROGRAM (the guide's laid-datum.mjs) off the statement by which the dump's own 'gosem.cut.vars' lays the variable. In a bare row this is a premise. The card (YtlcbfikmljmlpaaDoorCards.lean) ties it to the program's text. -/
def laid_unicode_utf8_acceptRanges {H : Type} : DataW H := .agg [.agg [.lit (.int .u8 128), .lit (.int .u8 191)], .agg [.lit (.int .u8 160), .lit (.int .u8 191)], .agg [.lit (.int .u8 128), .lit (.int .u8 159)], .agg [.lit (.int .u8 144), .lit (.int .u8 191)], .agg [.lit (.int .u8 128), .lit (.int .u8 143)], .agg [.lit (.int .u8 0), .lit (.int .u8 0)], .agg [.lit (.int .u8 0), .lit (.int .u8 0)], .agg [.lit (.int .u8 0), .lit (.int .u8 0)], .agg [.lit (.int .u8 0), .lit (.int .u8 0)], .agg [.lit (.int .u8 0), .lit (.int .u8 0)], .agg [.lit (.int .u8 0), .lit (.int .u8 0)], .agg [.lit (.int .u8 0), .lit (.int .u8 0)], .agg [.lit (.int .u8 0), .lit (.int .u8 0)], .agg [.lit (.int .u8 0), .lit (.int .u8 0)], .agg [.lit (.int .u8 0), .lit (.int .u8 0)], .agg [.lit (.int .u8 0), .lit (.int .u8 0)]]
/-- One of Go's own tables, pinned by name: the form's constant. -/
def laid_unicode_utf8_first : DataW Unit := Go.Pinned.utf8First

/-- 'descantlaw26.TagsCheck': WHATEVER THE INPUT: true; the input reads as it did. -/
def tagsCheckSpec : ChangeSpec := { name := "tagsCheck", fn := fun _ => fun
  | [d1, d2] => { results := [.lit (.bool true)], args := [d1, d2] }
  | _ => none }
def tagsCheckRow : OpenClaim := { program := "ytlcbfikmljmlpaadoor", sum := "7f2c1db5e1482ad3387de335b78cbd8baaf715cbaf4bb0bd9393b4772e33b5fc", func := "descant/descantlaw26.TagsCheck", spec := "tagsCheck", unfollowed := true, recurses := true, named := ["unicode/utf8.first", "unicode/utf8.acceptRanges"], apart := false, laid := [("unicode/utf8.acceptRanges", laid_unicode_utf8_acceptRanges), ("unicode/utf8.first", laid_unicode_utf8_first)] }
def TagsCheckSaid : Prop := tagsCheckRow.holds Tryd.pinned (OpenSpec.ofChange tagsCheckSpec)

/-- ITS FALSE NEIGHBOUR: 'it returns false'. Refute it at one input. -/
def tagsCheckWrong : ChangeSpec := { name := "tagsCheck", fn := fun _ => fun
  | [d1, d2] => { results := [.lit (.bool false)], args := [d1, d2] }
  | _ => none }
def TagsCheckWrongFalsely : Prop := tagsCheckRow.holds Tryd.pinned (OpenSpec.ofChange tagsCheckWrong)

/-- 'descantlaw26.TagsSet': WHATEVER THE INPUT: true; the input reads as it did. -/
def tagsSetSpec : ChangeSpec := { name := "tagsSet", fn := fun _ => fun
  | [d1, d2, d3] => { results := [.lit (.bool true)], args := [d1, d2, d3] }
  | _ => none }
def tagsSetRow : OpenClaim := { program := "ytlcbfikmljmlpaadoor", sum := "7f2c1db5e1482ad3387de335b78cbd8baaf715cbaf4bb0bd9393b4772e33b5fc", func := "descant/descantlaw26.TagsSet", spec := "tagsSet", unfollowed := true, recurses := true, named := ["unicode/utf8.first", "unicode/utf8.acceptRanges"], apart := false, laid := [("unicode/utf8.acceptRanges", laid_unicode_utf8_acceptRanges), ("unicode/utf8.first", laid_unicode_utf8_first)] }
def TagsSetSaid : Prop := tagsSetRow.holds Tryd.pinned (OpenSpec.ofChange tagsSetSpec)

/-- ITS FALSE NEIGHBOUR: 'it returns false'. Refute it at one input. -/
def tagsSetWrong : ChangeSpec := { name := "tagsSet", fn := fun _ => fun
  | [d1, d2, d3] => { results := [.lit (.bool false)], args := [d1, d2, d3] }
  | _ => none }
def TagsSetWrongFalsely : Prop := tagsSetRow.holds Tryd.pinned (OpenSpec.ofChange tagsSetWrong)

/-- 'descantlaw26.TagsFinds': WHATEVER THE INPUT: true; the input reads as it did. -/
def tagsFindsSpec : ChangeSpec := { name := "tagsFinds", fn := fun _ => fun
  | [d1, d2] => { results := [.lit (.bool true)], args := [d1, d2] }
  | _ => none }
def tagsFindsRow : OpenClaim := { program := "ytlcbfikmljmlpaadoor", sum := "7f2c1db5e1482ad3387de335b78cbd8baaf715cbaf4bb0bd9393b4772e33b5fc", func := "descant/descantlaw26.TagsFinds", spec := "tagsFinds", unfollowed := true, recurses := true, named := ["unicode/utf8.first", "unicode/utf8.acceptRanges"], apart := false, laid := [("unicode/utf8.acceptRanges", laid_unicode_utf8_acceptRanges), ("unicode/utf8.first", laid_unicode_utf8_first)] }
def TagsFindsSaid : Prop := tagsFindsRow.holds Tryd.pinned (OpenSpec.ofChange tagsFindsSpec)

/-- ITS FALSE NEIGHBOUR: 'it returns false'. Refute it at one input. -/
def tagsFindsWrong : ChangeSpec := { name := "tagsFinds", fn := fun _ => fun
  | [d1, d2] => { results := [.lit (.bool false)], args := [d1, d2] }
  | _ => none }
def TagsFindsWrongFalsely : Prop := tagsFindsRow.holds Tryd.pinned (OpenSpec.ofChange tagsFindsWrong)

/-- 'descantlaw26.TagsNil': WHATEVER THE INPUT: true; the input reads as it did. -/
def tagsNilSpec : ChangeSpec := { name := "tagsNil", fn := fun _ => fun
  | [d1, d2] => { results := [.lit (.bool true)], args := [d1, d2] }
  | _ => none }
def tagsNilRow : OpenClaim := { program := "ytlcbfikmljmlpaadoor", sum := "7f2c1db5e1482ad3387de335b78cbd8baaf715cbaf4bb0bd9393b4772e33b5fc", func := "descant/descantlaw26.TagsNil", spec := "tagsNil", unfollowed := true, recurses := true, named := ["unicode/utf8.first", "unicode/utf8.acceptRanges"], apart := false, laid := [("unicode/utf8.acceptRanges", laid_unicode_utf8_acceptRanges), ("unicode/utf8.first", laid_unicode_utf8_first)] }
def TagsNilSaid : Prop := tagsNilRow.holds Tryd.pinned (OpenSpec.ofChange tagsNilSpec)

/-- ITS FALSE NEIGHBOUR: 'it returns false'. Refute it at one input. -/
def tagsNilWrong : ChangeSpec := { name := "tagsNil", fn := fun _ => fun
  | [d1, d2] => { results := [.lit (.bool false)], args := [d1, d2] }
  | _ => none }
def TagsNilWrongFalsely : Prop := tagsNilRow.holds Tryd.pinned (OpenSpec.ofChange tagsNilWrong)

/-- 'descantlaw26.TagsPuts': WHATEVER THE INPUT: true; the input reads as it did. -/
def tagsPutsSpec : ChangeSpec := { name := "tagsPuts", fn := fun _ => fun
  | [d1, d2] => { results := [.lit (.bool true)], args := [d1, d2] }
  | _ => none }
def tagsPutsRow : OpenClaim := { program := "ytlcbfikmljmlpaadoor", sum := "7f2c1db5e1482ad3387de335b78cbd8baaf715cbaf4bb0bd9393b4772e33b5fc", func := "descant/descantlaw26.TagsPuts", spec := "tagsPuts", unfollowed := true, recurses := true, named := ["unicode/utf8.first", "unicode/utf8.acceptRanges"], apart := false, laid := [("unicode/utf8.acceptRanges", laid_unicode_utf8_acceptRanges), ("unicode/utf8.first", laid_unicode_utf8_first)] }
def TagsPutsSaid : Prop := tagsPutsRow.holds Tryd.pinned (OpenSpec.ofChange tagsPutsSpec)

/-- ITS FALSE NEIGHBOUR: 'it returns false'. Refute it at one input. -/
def tagsPutsWrong : ChangeSpec := { name := "tagsPuts", fn := fun _ => fun
  | [d1, d2] => { results := [.lit (.bool false)], args := [d1, d2] }
  | _ => none }
def TagsPutsWrongFalsely : Prop := tagsPutsRow.holds Tryd.pinned (OpenSpec.ofChange tagsPutsWrong)

/-- 'descantlaw26.TagsGets': WHATEVER THE INPUT: true; the input reads as it did. -/
def tagsGetsSpec : ChangeSpec := { name := "tagsGets", fn := fun _ => fun
  | [d] => { results := [.lit (.bool true)], args := [d] }
  | _ => none }
def tagsGetsRow : OpenClaim := { program := "ytlcbfikmljmlpaadoor", sum := "7f2c1db5e1482ad3387de335b78cbd8baaf715cbaf4bb0bd9393b4772e33b5fc", func := "descant/descantlaw26.TagsGets", spec := "tagsGets", unfollowed := true, recurses := true, named := ["unicode/utf8.first", "unicode/utf8.acceptRanges"], apart := false, laid := [("unicode/utf8.acceptRanges", laid_unicode_utf8_acceptRanges), ("unicode/utf8.first", laid_unicode_utf8_first)] }
def TagsGetsSaid : Prop := tagsGetsRow.holds Tryd.pinned (OpenSpec.ofChange tagsGetsSpec)

/-- ITS FALSE NEIGHBOUR: 'it returns false'. Refute it at one input. -/
def tagsGetsWrong : ChangeSpec := { name := "tagsGets", fn := fun _ => fun
  | [d] => { results := [.lit (.bool false)], args := [d] }
  | _ => none }
def TagsGetsWrongFalsely : Prop := tagsGetsRow.holds Tryd.pinned (OpenSpec.ofChange tagsGetsWrong)

/- THE SECOND FORM. 'bulk': how many values and letters a reading holds, each counted each time it is reached (what is shared counts as often as it is met; a slice's spare places count too). A statement '..UptoSaid' is the law's where the arguments, and the package variables that the reading takes, are together of bulk at most 1048576: NARROWER than '..Said'. Prove '..Said' where nothing that the law and all that it calls make is longer than what came in: it says more and counts as full. Else prove '..UptoSaid'. A law counts once. -/
mutual
def uptoBulk {H : Type} : DataW H → Nat
  | .lit (.string bytes) => bytes.length + 1
  | .lit _ => 1
  | .nil => 1
  | .ptr d => uptoBulk d + 1
  | .slice elems spare => uptoBulkAll elems + uptoBulkAll spare + 1
  | .agg parts => uptoBulkAll parts + 1
  | .iface _ d => uptoBulk d + 1
  | .map entries => uptoBulkEntries entries + 1
  | .held _ => 1
def uptoBulkAll {H : Type} : List (DataW H) → Nat
  | [] => 0
  | d :: r => uptoBulk d + uptoBulkAll r
def uptoBulkEntries {H : Type} : List (Lit × DataW H) → Nat
  | [] => 0
  | x :: r => uptoBulkEntry x + uptoBulkEntries r
def uptoBulkEntry {H : Type} : Lit × DataW H → Nat
  | (.string bytes, d) => bytes.length + uptoBulk d + 1
  | (_, d) => uptoBulk d + 1
 end
def uptoSmall : (H : Type) → List (DataW H) → Bool := fun _ ds => decide (uptoBulkAll ds ≤ 1048576)
def OpenSpec.upto (s : _root_.Go.ChangeSpec) : _root_.Go.OpenSpec := { _root_.Go.OpenSpec.ofChange s with cond := some uptoSmall }

/-- 'descantlaw26.TagsCheck', WHERE WHAT IT READS IS OF BULK AT MOST 1048576: true; the input reads as it did. -/
def tagsCheckUptoRow : OpenClaim := { program := "ytlcbfikmljmlpaadoor", sum := "7f2c1db5e1482ad3387de335b78cbd8baaf715cbaf4bb0bd9393b4772e33b5fc", func := "descant/descantlaw26.TagsCheck", spec := "tagsCheck", unfollowed := true, recurses := true, named := ["unicode/utf8.first", "unicode/utf8.acceptRanges"], apart := false, laid := [("unicode/utf8.acceptRanges", laid_unicode_utf8_acceptRanges), ("unicode/utf8.first", laid_unicode_utf8_first)], narrowed := true }
def TagsCheckUptoSaid : Prop := tagsCheckUptoRow.holds Tryd.pinned (OpenSpec.upto tagsCheckSpec)

/-- 'descantlaw26.TagsSet', WHERE WHAT IT READS IS OF BULK AT MOST 1048576: true; the input reads as it did. -/
def tagsSetUptoRow : OpenClaim := { program := "ytlcbfikmljmlpaadoor", sum := "7f2c1db5e1482ad3387de335b78cbd8baaf715cbaf4bb0bd9393b4772e33b5fc", func := "descant/descantlaw26.TagsSet", spec := "tagsSet", unfollowed := true, recurses := true, named := ["unicode/utf8.first", "unicode/utf8.acceptRanges"], apart := false, laid := [("unicode/utf8.acceptRanges", laid_unicode_utf8_acceptRanges), ("unicode/utf8.first", laid_unicode_utf8_first)], narrowed := true }
def TagsSetUptoSaid : Prop := tagsSetUptoRow.holds Tryd.pinned (OpenSpec.upto tagsSetSpec)

/-- 'descantlaw26.TagsFinds', WHERE WHAT IT READS IS OF BULK AT MOST 1048576: true; the input reads as it did. -/
def tagsFindsUptoRow : OpenClaim := { program := "ytlcbfikmljmlpaadoor", sum := "7f2c1db5e1482ad3387de335b78cbd8baaf715cbaf4bb0bd9393b4772e33b5fc", func := "descant/descantlaw26.TagsFinds", spec := "tagsFinds", unfollowed := true, recurses := true, named := ["unicode/utf8.first", "unicode/utf8.acceptRanges"], apart := false, laid := [("unicode/utf8.acceptRanges", laid_unicode_utf8_acceptRanges), ("unicode/utf8.first", laid_unicode_utf8_first)], narrowed := true }
def TagsFindsUptoSaid : Prop := tagsFindsUptoRow.holds Tryd.pinned (OpenSpec.upto tagsFindsSpec)

/-- 'descantlaw26.TagsNil', WHERE WHAT IT READS IS OF BULK AT MOST 1048576: true; the input reads as it did. -/
def tagsNilUptoRow : OpenClaim := { program := "ytlcbfikmljmlpaadoor", sum := "7f2c1db5e1482ad3387de335b78cbd8baaf715cbaf4bb0bd9393b4772e33b5fc", func := "descant/descantlaw26.TagsNil", spec := "tagsNil", unfollowed := true, recurses := true, named := ["unicode/utf8.first", "unicode/utf8.acceptRanges"], apart := false, laid := [("unicode/utf8.acceptRanges", laid_unicode_utf8_acceptRanges), ("unicode/utf8.first", laid_unicode_utf8_first)], narrowed := true }
def TagsNilUptoSaid : Prop := tagsNilUptoRow.holds Tryd.pinned (OpenSpec.upto tagsNilSpec)

/-- 'descantlaw26.TagsPuts', WHERE WHAT IT READS IS OF BULK AT MOST 1048576: true; the input reads as it did. -/
def tagsPutsUptoRow : OpenClaim := { program := "ytlcbfikmljmlpaadoor", sum := "7f2c1db5e1482ad3387de335b78cbd8baaf715cbaf4bb0bd9393b4772e33b5fc", func := "descant/descantlaw26.TagsPuts", spec := "tagsPuts", unfollowed := true, recurses := true, named := ["unicode/utf8.first", "unicode/utf8.acceptRanges"], apart := false, laid := [("unicode/utf8.acceptRanges", laid_unicode_utf8_acceptRanges), ("unicode/utf8.first", laid_unicode_utf8_first)], narrowed := true }
def TagsPutsUptoSaid : Prop := tagsPutsUptoRow.holds Tryd.pinned (OpenSpec.upto tagsPutsSpec)

/-- 'descantlaw26.TagsGets', WHERE WHAT IT READS IS OF BULK AT MOST 1048576: true; the input reads as it did. -/
def tagsGetsUptoRow : OpenClaim := { program := "ytlcbfikmljmlpaadoor", sum := "7f2c1db5e1482ad3387de335b78cbd8baaf715cbaf4bb0bd9393b4772e33b5fc", func := "descant/descantlaw26.TagsGets", spec := "tagsGets", unfollowed := true, recurses := true, named := ["unicode/utf8.first", "unicode/utf8.acceptRanges"], apart := false, laid := [("unicode/utf8.acceptRanges", laid_unicode_utf8_acceptRanges), ("unicode/utf8.first", laid_unicode_utf8_first)], narrowed := true }
def TagsGetsUptoSaid : Prop := tagsGetsUptoRow.holds Tryd.pinned (OpenSpec.upto tagsGetsSpec)

end Rows
end Go.Proofs.YtlcbfikmljmlpaaDoor

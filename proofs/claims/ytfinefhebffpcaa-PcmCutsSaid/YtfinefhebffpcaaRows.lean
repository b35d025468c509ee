/-
  No cell of these rows narrows 'for every input' (looked for: loops, veiled, ifaces, maps, wideKeys, modest, calm, conditions, laid).
  DERIVED. THE GIVEN ROWS OF THIS SEAT. 5 by the template 'for every input the law returns true; each argument reads behind the call as it read before'; 0 by the template 'total and deterministic' (their statements: YtfinefhebffpcaaTotals.lean).
  GIVEN WITH THE SEED: the statements are not yours to turn. If you find one false, say at which input.
  Laid BY PROGRAM, IN A SANDBOX (cutbox-rows.mjs): the forced cells as the released guide's own fill.sh prints them over the translation 3d162c770dc21517… (all of the seat's roots in one cut). By AI agents, Wed Nov 11 2026. No macro, syntax, notation, axiom, sorry.
-/
import Derived.Test.YtfinefhebffpcaaChecked
import GoSem.Claim
import GoSem.ClaimJoined
import GoSem.ClaimMapViews
import Derived.JoinedTies
import Derived.KernelRfl
namespace Go.Proofs.Ytfinefhebffpcaa
/- THE CELL 'sum', in the pinned program and in every row, IS THE sha256 OF THE DUMP (.gsa) THAT YtfinefhebffpcaaProg.lean LOADS. Nothing in Lean hashes anything: it is a label: what it is worth is what the hold of that sum in a sandbox is worth. -/
noncomputable def Try.pinned : Pinned := { name := "ytfinefhebffpcaa", sum := "3d162c770dc21517c793b8c1cd71455ae896cecfafe9640c6ab5cd862fcf5982", checked := Try.checked }
namespace Rows
def none {H : Type} : Left H := { results := [], args := [] }

/-- 'descantlaw05.PcmChecks': WHATEVER THE INPUT: true; the input reads as it did. -/
def pcmChecksSpec : ChangeSpec := { name := "pcmChecks", fn := fun _ => fun
  | [d] => { results := [.lit (.bool true)], args := [d] }
  | _ => none }
def pcmChecksRow : OpenClaim := { program := "ytfinefhebffpcaa", sum := "3d162c770dc21517c793b8c1cd71455ae896cecfafe9640c6ab5cd862fcf5982", func := "descant/descantlaw05.PcmChecks", spec := "pcmChecks", unfollowed := true, recurses := true, apart := false }
def PcmChecksSaid : Prop := pcmChecksRow.holds Try.pinned (OpenSpec.ofChange pcmChecksSpec)

/-- ITS FALSE NEIGHBOUR: 'it returns false'. Refute it at one input. -/
def pcmChecksWrong : ChangeSpec := { name := "pcmChecks", fn := fun _ => fun
  | [d] => { results := [.lit (.bool false)], args := [d] }
  | _ => none }
def PcmChecksWrongFalsely : Prop := pcmChecksRow.holds Try.pinned (OpenSpec.ofChange pcmChecksWrong)

/-- 'descantlaw05.PcmWeaves': WHATEVER THE INPUT: true; the input reads as it did. -/
def pcmWeavesSpec : ChangeSpec := { name := "pcmWeaves", fn := fun _ => fun
  | [d1, d2] => { results := [.lit (.bool true)], args := [d1, d2] }
  | _ => none }
def pcmWeavesRow : OpenClaim := { program := "ytfinefhebffpcaa", sum := "3d162c770dc21517c793b8c1cd71455ae896cecfafe9640c6ab5cd862fcf5982", func := "descant/descantlaw05.PcmWeaves", spec := "pcmWeaves", unfollowed := true, recurses := true, apart := false }
def PcmWeavesSaid : Prop := pcmWeavesRow.holds Try.pinned (OpenSpec.ofChange pcmWeavesSpec)

/-- ITS FALSE NEIGHBOUR: 'it returns false'. Refute it at one input. -/
def pcmWeavesWrong : ChangeSpec := { name := "pcmWeaves", fn := fun _ => fun
  | [d1, d2] => { results := [.lit (.bool false)], args := [d1, d2] }
  | _ => none }
def PcmWeavesWrongFalsely : Prop := pcmWeavesRow.holds Try.pinned (OpenSpec.ofChange pcmWeavesWrong)

/-- 'descantlaw05.PcmApart': WHATEVER THE INPUT: true; the input reads as it did. -/
def pcmApartSpec : ChangeSpec := { name := "pcmApart", fn := fun _ => fun
  | [d1, d2] => { results := [.lit (.bool true)], args := [d1, d2] }
  | _ => none }
def pcmApartRow : OpenClaim := { program := "ytfinefhebffpcaa", sum := "3d162c770dc21517c793b8c1cd71455ae896cecfafe9640c6ab5cd862fcf5982", func := "descant/descantlaw05.PcmApart", spec := "pcmApart", unfollowed := true, recurses := true, apart := false }
def PcmApartSaid : Prop := pcmApartRow.holds Try.pinned (OpenSpec.ofChange pcmApartSpec)

/-- ITS FALSE NEIGHBOUR: 'it returns false'. Refute it at one input. -/
def pcmApartWrong : ChangeSpec := { name := "pcmApart", fn := fun _ => fun
  | [d1, d2] => { results := [.lit (.bool false)], args := [d1, d2] }
  | _ => none }
def PcmApartWrongFalsely : Prop := pcmApartRow.holds Try.pinned (OpenSpec.ofChange pcmApartWrong)

/-- 'descantlaw05.PcmJoins': WHATEVER THE INPUT: true; the input reads as it did. -/
def pcmJoinsSpec : ChangeSpec := { name := "pcmJoins", fn := fun _ => fun
  | [d1, d2, d3] => { results := [.lit (.bool true)], args := [d1, d2, d3] }
  | _ => none }
def pcmJoinsRow : OpenClaim := { program := "ytfinefhebffpcaa", sum := "3d162c770dc21517c793b8c1cd71455ae896cecfafe9640c6ab5cd862fcf5982", func := "descant/descantlaw05.PcmJoins", spec := "pcmJoins", unfollowed := true, recurses := true, apart := false }
def PcmJoinsSaid : Prop := pcmJoinsRow.holds Try.pinned (OpenSpec.ofChange pcmJoinsSpec)

/-- ITS FALSE NEIGHBOUR: 'it returns false'. Refute it at one input. -/
def pcmJoinsWrong : ChangeSpec := { name := "pcmJoins", fn := fun _ => fun
  | [d1, d2, d3] => { results := [.lit (.bool false)], args := [d1, d2, d3] }
  | _ => none }
def PcmJoinsWrongFalsely : Prop := pcmJoinsRow.holds Try.pinned (OpenSpec.ofChange pcmJoinsWrong)

/-- 'descantlaw05.PcmCuts': WHATEVER THE INPUT: true; the input reads as it did. -/
def pcmCutsSpec : ChangeSpec := { name := "pcmCuts", fn := fun _ => fun
  | [d1, d2, d3] => { results := [.lit (.bool true)], args := [d1, d2, d3] }
  | _ => none }
def pcmCutsRow : OpenClaim := { program := "ytfinefhebffpcaa", sum := "3d162c770dc21517c793b8c1cd71455ae896cecfafe9640c6ab5cd862fcf5982", func := "descant/descantlaw05.PcmCuts", spec := "pcmCuts", unfollowed := true, recurses := true, apart := false }
def PcmCutsSaid : Prop := pcmCutsRow.holds Try.pinned (OpenSpec.ofChange pcmCutsSpec)

/-- ITS FALSE NEIGHBOUR: 'it returns false'. Refute it at one input. -/
def pcmCutsWrong : ChangeSpec := { name := "pcmCuts", fn := fun _ => fun
  | [d1, d2, d3] => { results := [.lit (.bool false)], args := [d1, d2, d3] }
  | _ => none }
def PcmCutsWrongFalsely : Prop := pcmCutsRow.holds Try.pinned (OpenSpec.ofChange pcmCutsWrong)

/- THE SECOND FORM. 'bulk': how many values and letters a reading holds, each counted each time it is reached (what is shared counts as often as it is met; a slice's spare places count too). A statement '..UptoSaid' is the law's where the arguments, and the package variables that the reading takes, are together of bulk at most 1048576: NARROWER than '..Said'. Prove '..Said' where nothing that the law and all that it calls make is longer than what came in: it says more and counts as full. Else prove '..UptoSaid'. A law counts once. -/
mutual
def uptoBulk {H : Type} : DataW H → Nat
  | .lit (.string bytes) => bytes.length + 1
  | .lit _ => 1
  | .nil => 1
  | .ptr d => uptoBulk d + 1
  | .slice elems spare => uptoBulkAll elems + uptoBulkAll spare + 1
  | .agg parts => uptoBulkAll parts + 1
  | .iface _ d => uptoBulk d + 1
  | .map entries => uptoBulkEntries entries + 1
  | .held _ => 1
def uptoBulkAll {H : Type} : List (DataW H) → Nat
  | [] => 0
  | d :: r => uptoBulk d + uptoBulkAll r
def uptoBulkEntries {H : Type} : List (Lit × DataW H) → Nat
  | [] => 0
  | x :: r => uptoBulkEntry x + uptoBulkEntries r
def uptoBulkEntry {H : Type} : Lit × DataW H → Nat
  | (.string bytes, d) => bytes.length + uptoBulk d + 1
  | (_, d) => uptoBulk d + 1
 end
def uptoSmall : (H : Type) → List (DataW H) → Bool := fun _ ds => decide (uptoBulkAll ds ≤ 1048576)
def OpenSpec.upto (s : _root_.Go.ChangeSpec) : _root_.Go.OpenSpec := { _root_.Go.OpenSpec.ofChange s with cond := some uptoSmall }

/-- 'descantlaw05.PcmChecks', WHERE WHAT IT READS IS OF BULK AT MOST 1048576: true; the input reads as it did. -/
def pcmChecksUptoRow : OpenClaim := { program := "ytfinefhebffpcaa", sum := "3d162c770dc21517c793b8c1cd71455ae896cecfafe9640c6ab5cd862fcf5982", func := "descant/descantlaw05.PcmChecks", spec := "pcmChecks", unfollowed := true, recurses := true, apart := false, narrowed := true }
def PcmChecksUptoSaid : Prop := pcmChecksUptoRow.holds Try.pinned (OpenSpec.upto pcmChecksSpec)

/-- 'descantlaw05.PcmWeaves', WHERE WHAT IT READS IS OF BULK AT MOST 1048576: true; the input reads as it did. -/
def pcmWeavesUptoRow : OpenClaim := { program := "ytfinefhebffpcaa", sum := "3d162c770dc21517c793b8c1cd71455ae896cecfafe9640c6ab5cd862fcf5982", func := "descant/descantlaw05.PcmWeaves", spec := "pcmWeaves", unfollowed := true, recurses := true, apart := false, narrowed := true }
def PcmWeavesUptoSaid : Prop := pcmWeavesUptoRow.holds Try.pinned (OpenSpec.upto pcmWeavesSpec)

/-- 'descantlaw05.PcmApart', WHERE WHAT IT READS IS OF BULK AT MOST 1048576: true; the input reads as it did. -/
def pcmApartUptoRow : OpenClaim := { program := "ytfinefhebffpcaa", sum := "3d162c770dc21517c793b8c1cd71455ae896cecfafe9640c6ab5cd862fcf5982", func := "descant/descantlaw05.PcmApart", spec := "pcmApart", unfollowed := true, recurses := true, apart := false, narrowed := true }
def PcmApartUptoSaid : Prop := pcmApartUptoRow.holds Try.pinned (OpenSpec.upto pcmApartSpec)

/-- 'descantlaw05.PcmJoins', WHERE WHAT IT READS IS OF BULK AT MOST 1048576: true; the input reads as it did. -/
def pcmJoinsUptoRow : OpenClaim := { program := "ytfinefhebffpcaa", sum := "3d162c770dc21517c793b8c1cd71455ae896cecfafe9640c6ab5cd862fcf5982", func := "descant/descantlaw05.PcmJoins", spec := "pcmJoins", unfollowed := true, recurses := true, apart := false, narrowed := true }
def PcmJoinsUptoSaid : Prop := pcmJoinsUptoRow.holds Try.pinned (OpenSpec.upto pcmJoinsSpec)

/-- 'descantlaw05.PcmCuts', WHERE WHAT IT READS IS OF BULK AT MOST 1048576: true; the input reads as it did. -/
def pcmCutsUptoRow : OpenClaim := { program := "ytfinefhebffpcaa", sum := "3d162c770dc21517c793b8c1cd71455ae896cecfafe9640c6ab5cd862fcf5982", func := "descant/descantlaw05.PcmCuts", spec := "pcmCuts", unfollowed := true, recurses := true, apart := false, narrowed := true }
def PcmCutsUptoSaid : Prop := pcmCutsUptoRow.holds Try.pinned (OpenSpec.upto pcmCutsSpec)

end Rows
end Go.Proofs.Ytfinefhebffpcaa

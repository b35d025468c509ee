/-
  No cell of these rows narrows 'for every input' (looked for: loops, veiled, ifaces, maps, wideKeys, modest, calm, conditions, laid).
  DERIVED. THE GIVEN ROWS OF THIS SEAT. 6 by the template 'for every input the law returns true; each argument reads behind the call as it read before'; 0 by the template 'total and deterministic' (their statements: YtllbemdeimgiiaaTotals.lean).
  GIVEN WITH THE SEED: the statements are not yours to turn. If you find one false, say at which input.
  Laid BY PROGRAM, IN A SANDBOX (cutbox-rows.mjs): the forced cells as the released guide's own fill.sh prints them over the translation 7de6f3115c56ad96… (all of the seat's roots in one cut). By AI agents, Wed Nov 11 2026. No macro, syntax, notation, axiom, sorry.
-/
import Derived.Test.YtllbemdeimgiiaaChecked
import GoSem.Claim
import GoSem.ClaimJoined
import GoSem.ClaimMapViews
import Derived.JoinedTies
import Derived.KernelRfl
namespace Go.Proofs.Ytllbemdeimgiiaa
/- THE CELL 'sum', in the pinned program and in every row, IS THE sha256 OF THE DUMP (.gsa) THAT YtllbemdeimgiiaaProg.lean LOADS. Nothing in Lean hashes anything: it is a label: what it is worth is what the hold of that sum in a sandbox is worth. -/
noncomputable def Try.pinned : Pinned := { name := "ytllbemdeimgiiaa", sum := "7de6f3115c56ad964525ae7e4d3dc54b0df6d9f342bb0f85dd32e0d31a4ef109", checked := Try.checked }
namespace Rows
def none {H : Type} : Left H := { results := [], args := [] }

/-- 'descantlaw28.TailBlocks': WHATEVER THE INPUT: true; the input reads as it did. -/
def tailBlocksSpec : ChangeSpec := { name := "tailBlocks", fn := fun _ => fun
  | [d1, d2, d3] => { results := [.lit (.bool true)], args := [d1, d2, d3] }
  | _ => none }
def tailBlocksRow : OpenClaim := { program := "ytllbemdeimgiiaa", sum := "7de6f3115c56ad964525ae7e4d3dc54b0df6d9f342bb0f85dd32e0d31a4ef109", func := "descant/descantlaw28.TailBlocks", spec := "tailBlocks", unfollowed := true, recurses := true, apart := false }
def TailBlocksSaid : Prop := tailBlocksRow.holds Try.pinned (OpenSpec.ofChange tailBlocksSpec)

/-- ITS FALSE NEIGHBOUR: 'it returns false'. Refute it at one input. -/
def tailBlocksWrong : ChangeSpec := { name := "tailBlocks", fn := fun _ => fun
  | [d1, d2, d3] => { results := [.lit (.bool false)], args := [d1, d2, d3] }
  | _ => none }
def TailBlocksWrongFalsely : Prop := tailBlocksRow.holds Try.pinned (OpenSpec.ofChange tailBlocksWrong)

/-- 'descantlaw28.TailSeeks': WHATEVER THE INPUT: true; the input reads as it did. -/
def tailSeeksSpec : ChangeSpec := { name := "tailSeeks", fn := fun _ => fun
  | [d1, d2, d3] => { results := [.lit (.bool true)], args := [d1, d2, d3] }
  | _ => none }
def tailSeeksRow : OpenClaim := { program := "ytllbemdeimgiiaa", sum := "7de6f3115c56ad964525ae7e4d3dc54b0df6d9f342bb0f85dd32e0d31a4ef109", func := "descant/descantlaw28.TailSeeks", spec := "tailSeeks", unfollowed := true, recurses := true, apart := false }
def TailSeeksSaid : Prop := tailSeeksRow.holds Try.pinned (OpenSpec.ofChange tailSeeksSpec)

/-- ITS FALSE NEIGHBOUR: 'it returns false'. Refute it at one input. -/
def tailSeeksWrong : ChangeSpec := { name := "tailSeeks", fn := fun _ => fun
  | [d1, d2, d3] => { results := [.lit (.bool false)], args := [d1, d2, d3] }
  | _ => none }
def TailSeeksWrongFalsely : Prop := tailSeeksRow.holds Try.pinned (OpenSpec.ofChange tailSeeksWrong)

/-- 'descantlaw28.TailPuts': WHATEVER THE INPUT: true; the input reads as it did. -/
def tailPutsSpec : ChangeSpec := { name := "tailPuts", fn := fun _ => fun
  | [d1, d2] => { results := [.lit (.bool true)], args := [d1, d2] }
  | _ => none }
def tailPutsRow : OpenClaim := { program := "ytllbemdeimgiiaa", sum := "7de6f3115c56ad964525ae7e4d3dc54b0df6d9f342bb0f85dd32e0d31a4ef109", func := "descant/descantlaw28.TailPuts", spec := "tailPuts", unfollowed := true, recurses := true, apart := false }
def TailPutsSaid : Prop := tailPutsRow.holds Try.pinned (OpenSpec.ofChange tailPutsSpec)

/-- ITS FALSE NEIGHBOUR: 'it returns false'. Refute it at one input. -/
def tailPutsWrong : ChangeSpec := { name := "tailPuts", fn := fun _ => fun
  | [d1, d2] => { results := [.lit (.bool false)], args := [d1, d2] }
  | _ => none }
def TailPutsWrongFalsely : Prop := tailPutsRow.holds Try.pinned (OpenSpec.ofChange tailPutsWrong)

/-- 'descantlaw28.TailGets': WHATEVER THE INPUT: true; the input reads as it did. -/
def tailGetsSpec : ChangeSpec := { name := "tailGets", fn := fun _ => fun
  | [d] => { results := [.lit (.bool true)], args := [d] }
  | _ => none }
def tailGetsRow : OpenClaim := { program := "ytllbemdeimgiiaa", sum := "7de6f3115c56ad964525ae7e4d3dc54b0df6d9f342bb0f85dd32e0d31a4ef109", func := "descant/descantlaw28.TailGets", spec := "tailGets", unfollowed := true, recurses := true, apart := false }
def TailGetsSaid : Prop := tailGetsRow.holds Try.pinned (OpenSpec.ofChange tailGetsSpec)

/-- ITS FALSE NEIGHBOUR: 'it returns false'. Refute it at one input. -/
def tailGetsWrong : ChangeSpec := { name := "tailGets", fn := fun _ => fun
  | [d] => { results := [.lit (.bool false)], args := [d] }
  | _ => none }
def TailGetsWrongFalsely : Prop := tailGetsRow.holds Try.pinned (OpenSpec.ofChange tailGetsWrong)

/-- 'descantlaw28.TailNil': WHATEVER THE INPUT: true; the input reads as it did. -/
def tailNilSpec : ChangeSpec := { name := "tailNil", fn := fun _ => fun
  | [d1, d2] => { results := [.lit (.bool true)], args := [d1, d2] }
  | _ => none }
def tailNilRow : OpenClaim := { program := "ytllbemdeimgiiaa", sum := "7de6f3115c56ad964525ae7e4d3dc54b0df6d9f342bb0f85dd32e0d31a4ef109", func := "descant/descantlaw28.TailNil", spec := "tailNil", unfollowed := true, recurses := true, apart := false }
def TailNilSaid : Prop := tailNilRow.holds Try.pinned (OpenSpec.ofChange tailNilSpec)

/-- ITS FALSE NEIGHBOUR: 'it returns false'. Refute it at one input. -/
def tailNilWrong : ChangeSpec := { name := "tailNil", fn := fun _ => fun
  | [d1, d2] => { results := [.lit (.bool false)], args := [d1, d2] }
  | _ => none }
def TailNilWrongFalsely : Prop := tailNilRow.holds Try.pinned (OpenSpec.ofChange tailNilWrong)

/-- 'descantlaw28.TailBack': WHATEVER THE INPUT: true; the input reads as it did. -/
def tailBackSpec : ChangeSpec := { name := "tailBack", fn := fun _ => fun
  | [d1, d2] => { results := [.lit (.bool true)], args := [d1, d2] }
  | _ => none }
def tailBackRow : OpenClaim := { program := "ytllbemdeimgiiaa", sum := "7de6f3115c56ad964525ae7e4d3dc54b0df6d9f342bb0f85dd32e0d31a4ef109", func := "descant/descantlaw28.TailBack", spec := "tailBack", unfollowed := true, recurses := true, apart := false }
def TailBackSaid : Prop := tailBackRow.holds Try.pinned (OpenSpec.ofChange tailBackSpec)

/-- ITS FALSE NEIGHBOUR: 'it returns false'. Refute it at one input. -/
def tailBackWrong : ChangeSpec := { name := "tailBack", fn := fun _ => fun
  | [d1, d2] => { results := [.lit (.bool false)], args := [d1, d2] }
  | _ => none }
def TailBackWrongFalsely : Prop := tailBackRow.holds Try.pinned (OpenSpec.ofChange tailBackWrong)

/- THE SECOND FORM. 'bulk': how many values and letters a reading holds, each counted each time it is reached (what is shared counts as often as it is met; a slice's spare places count too). A statement '..UptoSaid' is the law's where the arguments, and the package variables that the reading takes, are together of bulk at most 1048576: NARROWER than '..Said'. Prove '..Said' where nothing that the law and all that it calls make is longer than what came in: it says more and counts as full. Else prove '..UptoSaid'. A law counts once. -/
mutual
def uptoBulk {H : Type} : DataW H → Nat
  | .lit (.string bytes) => bytes.length + 1
  | .lit _ => 1
  | .nil => 1
  | .ptr d => uptoBulk d + 1
  | .slice elems spare => uptoBulkAll elems + uptoBulkAll spare + 1
  | .agg parts => uptoBulkAll parts + 1
  | .iface _ d => uptoBulk d + 1
  | .map entries => uptoBulkEntries entries + 1
  | .held _ => 1
def uptoBulkAll {H : Type} : List (DataW H) → Nat
  | [] => 0
  | d :: r => uptoBulk d + uptoBulkAll r
def uptoBulkEntries {H : Type} : List (Lit × DataW H) → Nat
  | [] => 0
  | x :: r => uptoBulkEntry x + uptoBulkEntries r
def uptoBulkEntry {H : Type} : Lit × DataW H → Nat
  | (.string bytes, d) => bytes.length + uptoBulk d + 1
  | (_, d) => uptoBulk d + 1
 end
def uptoSmall : (H : Type) → List (DataW H) → Bool := fun _ ds => decide (uptoBulkAll ds ≤ 1048576)
def OpenSpec.upto (s : _root_.Go.ChangeSpec) : _root_.Go.OpenSpec := { _root_.Go.OpenSpec.ofChange s with cond := some uptoSmall }

/-- 'descantlaw28.TailBlocks', WHERE WHAT IT READS IS OF BULK AT MOST 1048576: true; the input reads as it did. -/
def tailBlocksUptoRow : OpenClaim := { program := "ytllbemdeimgiiaa", sum := "7de6f3115c56ad964525ae7e4d3dc54b0df6d9f342bb0f85dd32e0d31a4ef109", func := "descant/descantlaw28.TailBlocks", spec := "tailBlocks", unfollowed := true, recurses := true, apart := false, narrowed := true }
def TailBlocksUptoSaid : Prop := tailBlocksUptoRow.holds Try.pinned (OpenSpec.upto tailBlocksSpec)

/-- 'descantlaw28.TailSeeks', WHERE WHAT IT READS IS OF BULK AT MOST 1048576: true; the input reads as it did. -/
def tailSeeksUptoRow : OpenClaim := { program := "ytllbemdeimgiiaa", sum := "7de6f3115c56ad964525ae7e4d3dc54b0df6d9f342bb0f85dd32e0d31a4ef109", func := "descant/descantlaw28.TailSeeks", spec := "tailSeeks", unfollowed := true, recurses := true, apart := false, narrowed := true }
def TailSeeksUptoSaid : Prop := tailSeeksUptoRow.holds Try.pinned (OpenSpec.upto tailSeeksSpec)

/-- 'descantlaw28.TailPuts', WHERE WHAT IT READS IS OF BULK AT MOST 1048576: true; the input reads as it did. -/
def tailPutsUptoRow : OpenClaim := { program := "ytllbemdeimgiiaa", sum := "7de6f3115c56ad964525ae7e4d3dc54b0df6d9f342bb0f85dd32e0d31a4ef109", func := "descant/descantlaw28.TailPuts", spec := "tailPuts", unfollowed := true, recurses := true, apart := false, narrowed := true }
def TailPutsUptoSaid : Prop := tailPutsUptoRow.holds Try.pinned (OpenSpec.upto tailPutsSpec)

/-- 'descantlaw28.TailGets', WHERE WHAT IT READS IS OF BULK AT MOST 1048576: true; the input reads as it did. -/
def tailGetsUptoRow : OpenClaim := { program := "ytllbemdeimgiiaa", sum := "7de6f3115c56ad964525ae7e4d3dc54b0df6d9f342bb0f85dd32e0d31a4ef109", func := "descant/descantlaw28.TailGets", spec := "tailGets", unfollowed := true, recurses := true, apart := false, narrowed := true }
def TailGetsUptoSaid : Prop := tailGetsUptoRow.holds Try.pinned (OpenSpec.upto tailGetsSpec)

/-- 'descantlaw28.TailNil', WHERE WHAT IT READS IS OF BULK AT MOST 1048576: true; the input reads as it did. -/
def tailNilUptoRow : OpenClaim := { program := "ytllbemdeimgiiaa", sum := "7de6f3115c56ad964525ae7e4d3dc54b0df6d9f342bb0f85dd32e0d31a4ef109", func := "descant/descantlaw28.TailNil", spec := "tailNil", unfollowed := true, recurses := true, apart := false, narrowed := true }
def TailNilUptoSaid : Prop := tailNilUptoRow.holds Try.pinned (OpenSpec.upto tailNilSpec)

/-- 'descantlaw28.TailBack', WHERE WHAT IT READS IS OF BULK AT MOST 1048576: true; the input reads as it did. -/
def tailBackUptoRow : OpenClaim := { program := "ytllbemdeimgiiaa", sum := "7de6f3115c56ad964525ae7e4d3dc54b0df6d9f342bb0f85dd32e0d31a4ef109", func := "descant/descantlaw28.TailBack", spec := "tailBack", unfollowed := true, recurses := true, apart := false, narrowed := true }
def TailBackUptoSaid : Prop := tailBackUptoRow.holds Try.pinned (OpenSpec.upto tailBackSpec)

end Rows
end Go.Proofs.Ytllbemdeimgiiaa

/-
  No cell of these rows narrows 'for every input' (looked for: loops, veiled, ifaces, maps, wideKeys, modest, calm, conditions, laid).
  DERIVED. THE GIVEN ROWS OF THIS SEAT. 7 by the template 'for every input the law returns true; each argument reads behind the call as it read before'; 0 by the template 'total and deterministic' (their statements: YtffcebjamichdaaTotals.lean).
  GIVEN WITH THE SEED: the statements are not yours to turn. If you find one false, say at which input.
  Laid BY PROGRAM, IN A SANDBOX (cutbox-rows.mjs): the forced cells as the released guide's own fill.sh prints them over the translation 489024e291f3e320… (all of the seat's roots in one cut). By AI agents, Wed Nov 11 2026. No macro, syntax, notation, axiom, sorry.
-/
import Derived.Test.YtffcebjamichdaaChecked
import GoSem.Claim
import GoSem.ClaimJoined
import GoSem.ClaimMapViews
import Derived.JoinedTies
import Derived.KernelRfl
namespace Go.Proofs.Ytffcebjamichdaa
/- THE CELL 'sum', in the pinned program and in every row, IS THE sha256 OF THE DUMP (.gsa) THAT YtffcebjamichdaaProg.lean LOADS. Nothing in Lean hashes anything: it is a label: what it is worth is what the hold of that sum in a sandbox is worth. -/
noncomputable def Try.pinned : Pinned := { name := "ytffcebjamichdaa", sum := "489024e291f3e32059dfa90d45076b430aca7750ba39008780f81177cf1e402c", checked := Try.checked }
namespace Rows
def none {H : Type} : Left H := { results := [], args := [] }

/-- 'descantlaw22.HeadPuts': WHATEVER THE INPUT: true; the input reads as it did. -/
def headPutsSpec : ChangeSpec := { name := "headPuts", fn := fun _ => fun
  | [d] => { results := [.lit (.bool true)], args := [d] }
  | _ => none }
def headPutsRow : OpenClaim := { program := "ytffcebjamichdaa", sum := "489024e291f3e32059dfa90d45076b430aca7750ba39008780f81177cf1e402c", func := "descant/descantlaw22.HeadPuts", spec := "headPuts", apart := false }
def HeadPutsSaid : Prop := headPutsRow.holds Try.pinned (OpenSpec.ofChange headPutsSpec)

/-- ITS FALSE NEIGHBOUR: 'it returns false'. Refute it at one input. -/
def headPutsWrong : ChangeSpec := { name := "headPuts", fn := fun _ => fun
  | [d] => { results := [.lit (.bool false)], args := [d] }
  | _ => none }
def HeadPutsWrongFalsely : Prop := headPutsRow.holds Try.pinned (OpenSpec.ofChange headPutsWrong)

/-- 'descantlaw22.HeadSeals': WHATEVER THE INPUT: true; the input reads as it did. -/
def headSealsSpec : ChangeSpec := { name := "headSeals", fn := fun _ => fun
  | [d1, d2] => { results := [.lit (.bool true)], args := [d1, d2] }
  | _ => none }
def headSealsRow : OpenClaim := { program := "ytffcebjamichdaa", sum := "489024e291f3e32059dfa90d45076b430aca7750ba39008780f81177cf1e402c", func := "descant/descantlaw22.HeadSeals", spec := "headSeals", apart := false }
def HeadSealsSaid : Prop := headSealsRow.holds Try.pinned (OpenSpec.ofChange headSealsSpec)

/-- ITS FALSE NEIGHBOUR: 'it returns false'. Refute it at one input. -/
def headSealsWrong : ChangeSpec := { name := "headSeals", fn := fun _ => fun
  | [d1, d2] => { results := [.lit (.bool false)], args := [d1, d2] }
  | _ => none }
def HeadSealsWrongFalsely : Prop := headSealsRow.holds Try.pinned (OpenSpec.ofChange headSealsWrong)

/-- 'descantlaw22.HeadGets': WHATEVER THE INPUT: true; the input reads as it did. -/
def headGetsSpec : ChangeSpec := { name := "headGets", fn := fun _ => fun
  | [d] => { results := [.lit (.bool true)], args := [d] }
  | _ => none }
def headGetsRow : OpenClaim := { program := "ytffcebjamichdaa", sum := "489024e291f3e32059dfa90d45076b430aca7750ba39008780f81177cf1e402c", func := "descant/descantlaw22.HeadGets", spec := "headGets", unfollowed := true, recurses := true, apart := false }
def HeadGetsSaid : Prop := headGetsRow.holds Try.pinned (OpenSpec.ofChange headGetsSpec)

/-- ITS FALSE NEIGHBOUR: 'it returns false'. Refute it at one input. -/
def headGetsWrong : ChangeSpec := { name := "headGets", fn := fun _ => fun
  | [d] => { results := [.lit (.bool false)], args := [d] }
  | _ => none }
def HeadGetsWrongFalsely : Prop := headGetsRow.holds Try.pinned (OpenSpec.ofChange headGetsWrong)

/-- 'descantlaw22.HeadOpens': WHATEVER THE INPUT: true; the input reads as it did. -/
def headOpensSpec : ChangeSpec := { name := "headOpens", fn := fun _ => fun
  | [d] => { results := [.lit (.bool true)], args := [d] }
  | _ => none }
def headOpensRow : OpenClaim := { program := "ytffcebjamichdaa", sum := "489024e291f3e32059dfa90d45076b430aca7750ba39008780f81177cf1e402c", func := "descant/descantlaw22.HeadOpens", spec := "headOpens", unfollowed := true, recurses := true, apart := false }
def HeadOpensSaid : Prop := headOpensRow.holds Try.pinned (OpenSpec.ofChange headOpensSpec)

/-- ITS FALSE NEIGHBOUR: 'it returns false'. Refute it at one input. -/
def headOpensWrong : ChangeSpec := { name := "headOpens", fn := fun _ => fun
  | [d] => { results := [.lit (.bool false)], args := [d] }
  | _ => none }
def HeadOpensWrongFalsely : Prop := headOpensRow.holds Try.pinned (OpenSpec.ofChange headOpensWrong)

/-- 'descantlaw22.HeadBack': WHATEVER THE INPUT: true; the input reads as it did. -/
def headBackSpec : ChangeSpec := { name := "headBack", fn := fun _ => fun
  | [d1, d2, d3] => { results := [.lit (.bool true)], args := [d1, d2, d3] }
  | _ => none }
def headBackRow : OpenClaim := { program := "ytffcebjamichdaa", sum := "489024e291f3e32059dfa90d45076b430aca7750ba39008780f81177cf1e402c", func := "descant/descantlaw22.HeadBack", spec := "headBack", unfollowed := true, recurses := true, apart := false }
def HeadBackSaid : Prop := headBackRow.holds Try.pinned (OpenSpec.ofChange headBackSpec)

/-- ITS FALSE NEIGHBOUR: 'it returns false'. Refute it at one input. -/
def headBackWrong : ChangeSpec := { name := "headBack", fn := fun _ => fun
  | [d1, d2, d3] => { results := [.lit (.bool false)], args := [d1, d2, d3] }
  | _ => none }
def HeadBackWrongFalsely : Prop := headBackRow.holds Try.pinned (OpenSpec.ofChange headBackWrong)

/-- 'descantlaw22.HeadChanges': WHATEVER THE INPUT: true; the input reads as it did. -/
def headChangesSpec : ChangeSpec := { name := "headChanges", fn := fun _ => fun
  | [d1, d2, d3, d4] => { results := [.lit (.bool true)], args := [d1, d2, d3, d4] }
  | _ => none }
def headChangesRow : OpenClaim := { program := "ytffcebjamichdaa", sum := "489024e291f3e32059dfa90d45076b430aca7750ba39008780f81177cf1e402c", func := "descant/descantlaw22.HeadChanges", spec := "headChanges", unfollowed := true, recurses := true, apart := false }
def HeadChangesSaid : Prop := headChangesRow.holds Try.pinned (OpenSpec.ofChange headChangesSpec)

/-- ITS FALSE NEIGHBOUR: 'it returns false'. Refute it at one input. -/
def headChangesWrong : ChangeSpec := { name := "headChanges", fn := fun _ => fun
  | [d1, d2, d3, d4] => { results := [.lit (.bool false)], args := [d1, d2, d3, d4] }
  | _ => none }
def HeadChangesWrongFalsely : Prop := headChangesRow.holds Try.pinned (OpenSpec.ofChange headChangesWrong)

/-- 'descantlaw22.HeadNil': WHATEVER THE INPUT: true; the input reads as it did. -/
def headNilSpec : ChangeSpec := { name := "headNil", fn := fun _ => fun
  | [d1, d2] => { results := [.lit (.bool true)], args := [d1, d2] }
  | _ => none }
def headNilRow : OpenClaim := { program := "ytffcebjamichdaa", sum := "489024e291f3e32059dfa90d45076b430aca7750ba39008780f81177cf1e402c", func := "descant/descantlaw22.HeadNil", spec := "headNil", unfollowed := true, recurses := true, apart := false }
def HeadNilSaid : Prop := headNilRow.holds Try.pinned (OpenSpec.ofChange headNilSpec)

/-- ITS FALSE NEIGHBOUR: 'it returns false'. Refute it at one input. -/
def headNilWrong : ChangeSpec := { name := "headNil", fn := fun _ => fun
  | [d1, d2] => { results := [.lit (.bool false)], args := [d1, d2] }
  | _ => none }
def HeadNilWrongFalsely : Prop := headNilRow.holds Try.pinned (OpenSpec.ofChange headNilWrong)

/- THE SECOND FORM. 'bulk': how many values and letters a reading holds, each counted each time it is reached (what is shared counts as often as it is met; a slice's spare places count too). A statement '..UptoSaid' is the law's where the arguments, and the package variables that the reading takes, are together of bulk at most 1048576: NARROWER than '..Said'. Prove '..Said' where nothing that the law and all that it calls make is longer than what came in: it says more and counts as full. Else prove '..UptoSaid'. A law counts once. -/
mutual
def uptoBulk {H : Type} : DataW H → Nat
  | .lit (.string bytes) => bytes.length + 1
  | .lit _ => 1
  | .nil => 1
  | .ptr d => uptoBulk d + 1
  | .slice elems spare => uptoBulkAll elems + uptoBulkAll spare + 1
  | .agg parts => uptoBulkAll parts + 1
  | .iface _ d => uptoBulk d + 1
  | .map entries => uptoBulkEntries entries + 1
  | .held _ => 1
def uptoBulkAll {H : Type} : List (DataW H) → Nat
  | [] => 0
  | d :: r => uptoBulk d + uptoBulkAll r
def uptoBulkEntries {H : Type} : List (Lit × DataW H) → Nat
  | [] => 0
  | x :: r => uptoBulkEntry x + uptoBulkEntries r
def uptoBulkEntry {H : Type} : Lit × DataW H → Nat
  | (.string bytes, d) => bytes.length + uptoBulk d + 1
  | (_, d) => uptoBulk d + 1
 end
def uptoSmall : (H : Type) → List (DataW H) → Bool := fun _ ds => decide (uptoBulkAll ds ≤ 1048576)
def OpenSpec.upto (s : _root_.Go.ChangeSpec) : _root_.Go.OpenSpec := { _root_.Go.OpenSpec.ofChange s with cond := some uptoSmall }

/-- 'descantlaw22.HeadPuts', WHERE WHAT IT READS IS OF BULK AT MOST 1048576: true; the input reads as it did. -/
def headPutsUptoRow : OpenClaim := { program := "ytffcebjamichdaa", sum := "489024e291f3e32059dfa90d45076b430aca7750ba39008780f81177cf1e402c", func := "descant/descantlaw22.HeadPuts", spec := "headPuts", apart := false, narrowed := true }
def HeadPutsUptoSaid : Prop := headPutsUptoRow.holds Try.pinned (OpenSpec.upto headPutsSpec)

/-- 'descantlaw22.HeadSeals', WHERE WHAT IT READS IS OF BULK AT MOST 1048576: true; the input reads as it did. -/
def headSealsUptoRow : OpenClaim := { program := "ytffcebjamichdaa", sum := "489024e291f3e32059dfa90d45076b430aca7750ba39008780f81177cf1e402c", func := "descant/descantlaw22.HeadSeals", spec := "headSeals", apart := false, narrowed := true }
def HeadSealsUptoSaid : Prop := headSealsUptoRow.holds Try.pinned (OpenSpec.upto headSealsSpec)

/-- 'descantlaw22.HeadGets', WHERE WHAT IT READS IS OF BULK AT MOST 1048576: true; the input reads as it did. -/
def headGetsUptoRow : OpenClaim := { program := "ytffcebjamichdaa", sum := "489024e291f3e32059dfa90d45076b430aca7750ba39008780f81177cf1e402c", func := "descant/descantlaw22.HeadGets", spec := "headGets", unfollowed := true, recurses := true, apart := false, narrowed := true }
def HeadGetsUptoSaid : Prop := headGetsUptoRow.holds Try.pinned (OpenSpec.upto headGetsSpec)

/-- 'descantlaw22.HeadOpens', WHERE WHAT IT READS IS OF BULK AT MOST 1048576: true; the input reads as it did. -/
def headOpensUptoRow : OpenClaim := { program := "ytffcebjamichdaa", sum := "489024e291f3e32059dfa90d45076b430aca7750ba39008780f81177cf1e402c", func := "descant/descantlaw22.HeadOpens", spec := "headOpens", unfollowed := true, recurses := true, apart := false, narrowed := true }
def HeadOpensUptoSaid : Prop := headOpensUptoRow.holds Try.pinned (OpenSpec.upto headOpensSpec)

/-- 'descantlaw22.HeadBack', WHERE WHAT IT READS IS OF BULK AT MOST 1048576: true; the input reads as it did. -/
def headBackUptoRow : OpenClaim := { program := "ytffcebjamichdaa", sum := "489024e291f3e32059dfa90d45076b430aca7750ba39008780f81177cf1e402c", func := "descant/descantlaw22.HeadBack", spec := "headBack", unfollowed := true, recurses := true, apart := false, narrowed := true }
def HeadBackUptoSaid : Prop := headBackUptoRow.holds Try.pinned (OpenSpec.upto headBackSpec)

/-- 'descantlaw22.HeadChanges', WHERE WHAT IT READS IS OF BULK AT MOST 1048576: true; the input reads as it did. -/
def headChangesUptoRow : OpenClaim := { program := "ytffcebjamichdaa", sum := "489024e291f3e32059dfa90d45076b430aca7750ba39008780f81177cf1e402c", func := "descant/descantlaw22.HeadChanges", spec := "headChanges", unfollowed := true, recurses := true, apart := false, narrowed := true }
def HeadChangesUptoSaid : Prop := headChangesUptoRow.holds Try.pinned (OpenSpec.upto headChangesSpec)

/-- 'descantlaw22.HeadNil', WHERE WHAT IT READS IS OF BULK AT MOST 1048576: true; the input reads as it did. -/
def headNilUptoRow : OpenClaim := { program := "ytffcebjamichdaa", sum := "489024e291f3e32059dfa90d45076b430aca7750ba39008780f81177cf1e402c", func := "descant/descantlaw22.HeadNil", spec := "headNil", unfollowed := true, recurses := true, apart := false, narrowed := true }
def HeadNilUptoSaid : Prop := headNilUptoRow.holds Try.pinned (OpenSpec.upto headNilSpec)

end Rows
end Go.Proofs.Ytffcebjamichdaa

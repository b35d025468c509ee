/-
  No cell of these rows narrows 'for every input' (looked for: loops, veiled, ifaces, maps, wideKeys, modest, calm, conditions, laid).
  DERIVED. THE GIVEN ROWS OF THIS SEAT. 6 by the template 'for every input the law returns true; each argument reads behind the call as it read before'; 0 by the template 'total and deterministic' (their statements: YtafjjkcfndaclaaTotals.lean).
  GIVEN WITH THE SEED: the statements are not yours to turn. If you find one false, say at which input.
  Laid BY PROGRAM, IN A SANDBOX (cutbox-rows.mjs): the forced cells as the released guide's own fill.sh prints them over the translation f3bbd7687acab9f6… (all of the seat's roots in one cut). By AI agents, Wed Nov 11 2026. No macro, syntax, notation, axiom, sorry.
-/
import Derived.Test.YtafjjkcfndaclaaChecked
import GoSem.Claim
import GoSem.ClaimJoined
import GoSem.ClaimMapViews
import Derived.JoinedTies
import Derived.KernelRfl
namespace Go.Proofs.Ytafjjkcfndaclaa
/- THE CELL 'sum', in the pinned program and in every row, IS THE sha256 OF THE DUMP (.gsa) THAT YtafjjkcfndaclaaProg.lean LOADS. Nothing in Lean hashes anything: it is a label: what it is worth is what the hold of that sum in a sandbox is worth. -/
noncomputable def Try.pinned : Pinned := { name := "ytafjjkcfndaclaa", sum := "f3bbd7687acab9f62487e6ee43218edc1cad0779d6253611d6c844e37e769f58", checked := Try.checked }
namespace Rows
def none {H : Type} : Left H := { results := [], args := [] }

/-- 'descantlaw27.InfoPuts': WHATEVER THE INPUT: true; the input reads as it did. -/
def infoPutsSpec : ChangeSpec := { name := "infoPuts", fn := fun _ => fun
  | [d] => { results := [.lit (.bool true)], args := [d] }
  | _ => none }
def infoPutsRow : OpenClaim := { program := "ytafjjkcfndaclaa", sum := "f3bbd7687acab9f62487e6ee43218edc1cad0779d6253611d6c844e37e769f58", func := "descant/descantlaw27.InfoPuts", spec := "infoPuts", apart := false }
def InfoPutsSaid : Prop := infoPutsRow.holds Try.pinned (OpenSpec.ofChange infoPutsSpec)

/-- ITS FALSE NEIGHBOUR: 'it returns false'. Refute it at one input. -/
def infoPutsWrong : ChangeSpec := { name := "infoPuts", fn := fun _ => fun
  | [d] => { results := [.lit (.bool false)], args := [d] }
  | _ => none }
def InfoPutsWrongFalsely : Prop := infoPutsRow.holds Try.pinned (OpenSpec.ofChange infoPutsWrong)

/-- 'descantlaw27.InfoMates': WHATEVER THE INPUT: true; the input reads as it did. -/
def infoMatesSpec : ChangeSpec := { name := "infoMates", fn := fun _ => fun
  | [d1, d2] => { results := [.lit (.bool true)], args := [d1, d2] }
  | _ => none }
def infoMatesRow : OpenClaim := { program := "ytafjjkcfndaclaa", sum := "f3bbd7687acab9f62487e6ee43218edc1cad0779d6253611d6c844e37e769f58", func := "descant/descantlaw27.InfoMates", spec := "infoMates", apart := false }
def InfoMatesSaid : Prop := infoMatesRow.holds Try.pinned (OpenSpec.ofChange infoMatesSpec)

/-- ITS FALSE NEIGHBOUR: 'it returns false'. Refute it at one input. -/
def infoMatesWrong : ChangeSpec := { name := "infoMates", fn := fun _ => fun
  | [d1, d2] => { results := [.lit (.bool false)], args := [d1, d2] }
  | _ => none }
def InfoMatesWrongFalsely : Prop := infoMatesRow.holds Try.pinned (OpenSpec.ofChange infoMatesWrong)

/-- 'descantlaw27.InfoOf': WHATEVER THE INPUT: true; the input reads as it did. -/
def infoOfSpec : ChangeSpec := { name := "infoOf", fn := fun _ => fun
  | [d1, d2, d3] => { results := [.lit (.bool true)], args := [d1, d2, d3] }
  | _ => none }
def infoOfRow : OpenClaim := { program := "ytafjjkcfndaclaa", sum := "f3bbd7687acab9f62487e6ee43218edc1cad0779d6253611d6c844e37e769f58", func := "descant/descantlaw27.InfoOf", spec := "infoOf", apart := false }
def InfoOfSaid : Prop := infoOfRow.holds Try.pinned (OpenSpec.ofChange infoOfSpec)

/-- ITS FALSE NEIGHBOUR: 'it returns false'. Refute it at one input. -/
def infoOfWrong : ChangeSpec := { name := "infoOf", fn := fun _ => fun
  | [d1, d2, d3] => { results := [.lit (.bool false)], args := [d1, d2, d3] }
  | _ => none }
def InfoOfWrongFalsely : Prop := infoOfRow.holds Try.pinned (OpenSpec.ofChange infoOfWrong)

/-- 'descantlaw27.InfoGets': WHATEVER THE INPUT: true; the input reads as it did. -/
def infoGetsSpec : ChangeSpec := { name := "infoGets", fn := fun _ => fun
  | [d] => { results := [.lit (.bool true)], args := [d] }
  | _ => none }
def infoGetsRow : OpenClaim := { program := "ytafjjkcfndaclaa", sum := "f3bbd7687acab9f62487e6ee43218edc1cad0779d6253611d6c844e37e769f58", func := "descant/descantlaw27.InfoGets", spec := "infoGets", apart := false }
def InfoGetsSaid : Prop := infoGetsRow.holds Try.pinned (OpenSpec.ofChange infoGetsSpec)

/-- ITS FALSE NEIGHBOUR: 'it returns false'. Refute it at one input. -/
def infoGetsWrong : ChangeSpec := { name := "infoGets", fn := fun _ => fun
  | [d] => { results := [.lit (.bool false)], args := [d] }
  | _ => none }
def InfoGetsWrongFalsely : Prop := infoGetsRow.holds Try.pinned (OpenSpec.ofChange infoGetsWrong)

/-- 'descantlaw27.InfoBack': WHATEVER THE INPUT: true; the input reads as it did. -/
def infoBackSpec : ChangeSpec := { name := "infoBack", fn := fun _ => fun
  | [d1, d2] => { results := [.lit (.bool true)], args := [d1, d2] }
  | _ => none }
def infoBackRow : OpenClaim := { program := "ytafjjkcfndaclaa", sum := "f3bbd7687acab9f62487e6ee43218edc1cad0779d6253611d6c844e37e769f58", func := "descant/descantlaw27.InfoBack", spec := "infoBack", apart := false }
def InfoBackSaid : Prop := infoBackRow.holds Try.pinned (OpenSpec.ofChange infoBackSpec)

/-- ITS FALSE NEIGHBOUR: 'it returns false'. Refute it at one input. -/
def infoBackWrong : ChangeSpec := { name := "infoBack", fn := fun _ => fun
  | [d1, d2] => { results := [.lit (.bool false)], args := [d1, d2] }
  | _ => none }
def InfoBackWrongFalsely : Prop := infoBackRow.holds Try.pinned (OpenSpec.ofChange infoBackWrong)

/-- 'descantlaw27.InfoNil': WHATEVER THE INPUT: true; the input reads as it did. -/
def infoNilSpec : ChangeSpec := { name := "infoNil", fn := fun _ => fun
  | [d1, d2] => { results := [.lit (.bool true)], args := [d1, d2] }
  | _ => none }
def infoNilRow : OpenClaim := { program := "ytafjjkcfndaclaa", sum := "f3bbd7687acab9f62487e6ee43218edc1cad0779d6253611d6c844e37e769f58", func := "descant/descantlaw27.InfoNil", spec := "infoNil", apart := false }
def InfoNilSaid : Prop := infoNilRow.holds Try.pinned (OpenSpec.ofChange infoNilSpec)

/-- ITS FALSE NEIGHBOUR: 'it returns false'. Refute it at one input. -/
def infoNilWrong : ChangeSpec := { name := "infoNil", fn := fun _ => fun
  | [d1, d2] => { results := [.lit (.bool false)], args := [d1, d2] }
  | _ => none }
def InfoNilWrongFalsely : Prop := infoNilRow.holds Try.pinned (OpenSpec.ofChange infoNilWrong)

/- THE SECOND FORM. 'bulk': how many values and letters a reading holds, each counted each time it is reached (what is shared counts as often as it is met; a slice's spare places count too). A statement '..UptoSaid' is the law's where the arguments, and the package variables that the reading takes, are together of bulk at most 1048576: NARROWER than '..Said'. Prove '..Said' where nothing that the law and all that it calls make is longer than what came in: it says more and counts as full. Else prove '..UptoSaid'. A law counts once. -/
mutual
def uptoBulk {H : Type} : DataW H → Nat
  | .lit (.string bytes) => bytes.length + 1
  | .lit _ => 1
  | .nil => 1
  | .ptr d => uptoBulk d + 1
  | .slice elems spare => uptoBulkAll elems + uptoBulkAll spare + 1
  | .agg parts => uptoBulkAll parts + 1
  | .iface _ d => uptoBulk d + 1
  | .map entries => uptoBulkEntries entries + 1
  | .held _ => 1
def uptoBulkAll {H : Type} : List (DataW H) → Nat
  | [] => 0
  | d :: r => uptoBulk d + uptoBulkAll r
def uptoBulkEntries {H : Type} : List (Lit × DataW H) → Nat
  | [] => 0
  | x :: r => uptoBulkEntry x + uptoBulkEntries r
def uptoBulkEntry {H : Type} : Lit × DataW H → Nat
  | (.string bytes, d) => bytes.length + uptoBulk d + 1
  | (_, d) => uptoBulk d + 1
 end
def uptoSmall : (H : Type) → List (DataW H) → Bool := fun _ ds => decide (uptoBulkAll ds ≤ 1048576)
def OpenSpec.upto (s : _root_.Go.ChangeSpec) : _root_.Go.OpenSpec := { _root_.Go.OpenSpec.ofChange s with cond := some uptoSmall }

/-- 'descantlaw27.InfoPuts', WHERE WHAT IT READS IS OF BULK AT MOST 1048576: true; the input reads as it did. -/
def infoPutsUptoRow : OpenClaim := { program := "ytafjjkcfndaclaa", sum := "f3bbd7687acab9f62487e6ee43218edc1cad0779d6253611d6c844e37e769f58", func := "descant/descantlaw27.InfoPuts", spec := "infoPuts", apart := false, narrowed := true }
def InfoPutsUptoSaid : Prop := infoPutsUptoRow.holds Try.pinned (OpenSpec.upto infoPutsSpec)

/-- 'descantlaw27.InfoMates', WHERE WHAT IT READS IS OF BULK AT MOST 1048576: true; the input reads as it did. -/
def infoMatesUptoRow : OpenClaim := { program := "ytafjjkcfndaclaa", sum := "f3bbd7687acab9f62487e6ee43218edc1cad0779d6253611d6c844e37e769f58", func := "descant/descantlaw27.InfoMates", spec := "infoMates", apart := false, narrowed := true }
def InfoMatesUptoSaid : Prop := infoMatesUptoRow.holds Try.pinned (OpenSpec.upto infoMatesSpec)

/-- 'descantlaw27.InfoOf', WHERE WHAT IT READS IS OF BULK AT MOST 1048576: true; the input reads as it did. -/
def infoOfUptoRow : OpenClaim := { program := "ytafjjkcfndaclaa", sum := "f3bbd7687acab9f62487e6ee43218edc1cad0779d6253611d6c844e37e769f58", func := "descant/descantlaw27.InfoOf", spec := "infoOf", apart := false, narrowed := true }
def InfoOfUptoSaid : Prop := infoOfUptoRow.holds Try.pinned (OpenSpec.upto infoOfSpec)

/-- 'descantlaw27.InfoGets', WHERE WHAT IT READS IS OF BULK AT MOST 1048576: true; the input reads as it did. -/
def infoGetsUptoRow : OpenClaim := { program := "ytafjjkcfndaclaa", sum := "f3bbd7687acab9f62487e6ee43218edc1cad0779d6253611d6c844e37e769f58", func := "descant/descantlaw27.InfoGets", spec := "infoGets", apart := false, narrowed := true }
def InfoGetsUptoSaid : Prop := infoGetsUptoRow.holds Try.pinned (OpenSpec.upto infoGetsSpec)

/-- 'descantlaw27.InfoBack', WHERE WHAT IT READS IS OF BULK AT MOST 1048576: true; the input reads as it did. -/
def infoBackUptoRow : OpenClaim := { program := "ytafjjkcfndaclaa", sum := "f3bbd7687acab9f62487e6ee43218edc1cad0779d6253611d6c844e37e769f58", func := "descant/descantlaw27.InfoBack", spec := "infoBack", apart := false, narrowed := true }
def InfoBackUptoSaid : Prop := infoBackUptoRow.holds Try.pinned (OpenSpec.upto infoBackSpec)

/-- 'descantlaw27.InfoNil', WHERE WHAT IT READS IS OF BULK AT MOST 1048576: true; the input reads as it did. -/
def infoNilUptoRow : OpenClaim := { program := "ytafjjkcfndaclaa", sum := "f3bbd7687acab9f62487e6ee43218edc1cad0779d6253611d6c844e37e769f58", func := "descant/descantlaw27.InfoNil", spec := "infoNil", apart := false, narrowed := true }
def InfoNilUptoSaid : Prop := infoNilUptoRow.holds Try.pinned (OpenSpec.upto infoNilSpec)

end Rows
end Go.Proofs.Ytafjjkcfndaclaa

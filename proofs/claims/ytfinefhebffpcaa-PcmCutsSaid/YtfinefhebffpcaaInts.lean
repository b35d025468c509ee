/- Slices of whole numbers, and what their last three bits are. -/
import Derived.Test.YtfinefhebffpcaaProg
import Derived.Test.YtfinefhebffpcaaApp
import Derived.WalkSpells
import Derived.WalkLawsBesides
namespace Go.Proofs.Ytfinefhebffpcaa
set_option linter.unusedVariables false
open Go.RowKit
def intV (x : Int) : Value := .int .i64 x
def SeesI (w : World) (A : Option Addr) (l : List Int) : Prop := Sees w A (l.map intV)
theorem SeesI.at {w : World} {A : Option Addr} {l : List Int} (h : SeesI w A l) {i : Nat} (hi : i < l.length) :
    ∃ a, A = some a ∧ w.cell? (a.add i) = some (.int .i64 l[i]) := h i (intV l[i]) (by rw [List.getElem?_map, List.getElem?_eq_getElem hi]; rfl)
theorem SeesI.below {w w' : World} {A : Option Addr} {l : List Int} (h : SeesI w A l) (hk : Below w.heap.size w w') : SeesI w' A l := Sees.below h hk
theorem elI : Elem Try.prog 34 3 1 8 := Elem.mk' Try.underlying34 (z := .int .i64 0) (by kernel_rfl) rfl (by omega)
theorem ints_one (l : List Int) : ∀ u ∈ l.map intV, u.oneCell' = true := by
  intro u hu
  obtain ⟨b, _, rfl⟩ := List.mem_map.1 hu
  rfl
theorem bits7 (x : Int) : ∃ k : Nat, bits .and .i64 x 7 = (k : Int) ∧ k ≤ 7 := by
  refine ⟨(bits .and .i64 x 7).toNat, ?_, ?_⟩
  all_goals
    have h : (BitVec.ofInt 64 x &&& 7#64).toNat ≤ 7 := by
      rw [BitVec.toNat_and]; exact Nat.and_le_right
    have hh : bits .and .i64 x 7 = ((BitVec.ofInt 64 x &&& 7#64).toNat : Int) := by
      show IntKind.i64.wrap ((BitVec.ofInt 64 x &&& BitVec.ofInt 64 7).toNat : Int) = _
      rw [show BitVec.ofInt 64 7 = 7#64 from rfl, IntKind.wrap_i64]
      omega
    rw [hh]
    omega
end Go.Proofs.Ytfinefhebffpcaa

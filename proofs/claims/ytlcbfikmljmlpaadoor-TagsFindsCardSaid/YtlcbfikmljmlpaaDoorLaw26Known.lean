/- The fixed calls of the statements of layer 26. -/
import Derived.Test.YtlcbfikmljmlpaaDoorTagsLets
import Derived.Test.YtlcbfikmljmlpaaDoorTagsFold
namespace Go.Proofs.YtlcbfikmljmlpaaDoor
set_option linter.unusedVariables false
open Go.RowKit
def kT : ByteArray := ⟨#[84, 105, 116, 108, 101]⟩
def kN : ByteArray := ⟨#[110, 195, 169]⟩
def kE : ByteArray := ⟨#[110, 195, 169, 101]⟩
theorem kT1 : foldS kT = ⟨#[116, 105, 116, 108, 101]⟩ := by rfl
theorem kN1 : lenL kN kN.size 0 = 2 := by decide +kernel
theorem kE1 : posL kE (2 : Int).toNat 0 = 3 := by decide +kernel
theorem kE2 : kE.extract 0 3 = ⟨#[110, 195, 169]⟩ := by rfl
set_option maxHeartbeats 400000 in
theorem known_any (w : World) :
    Calls Tryd.prog 10 #[] w fun e w' => e = .returned (.bool true) ∧ Below w.heap.size w w' := by
  have e1 := fun w => fold_any kT w (by decide)
  rw [kT1] at e1
  have e2 := fun w => letters_any kN w (by decide)
  rw [kN1] at e2
  have e3 := fun w => cut_any kE 2 w (by decide) (by decide)
  rw [kE1, kE2] at e3
  unfold kT at e1
  unfold kN at e2
  unfold kE at e3
  go_enter Tryd.func10, Tryd.ntmps10
  go_wp2_with fail
  refine (e1 _).mono ?_
  rintro e w1 ⟨rfl, hb1⟩
  go_wp2_with fail
  refine (e2 _).mono ?_
  rintro e w2 ⟨rfl, hb2⟩
  replace hb2 := hb1.trans (hb2.mono hb1.size)
  clear hb1
  go_wp2_with fail
  refine (e3 _).mono ?_
  rintro e w3 ⟨rfl, hb3⟩
  replace hb3 := hb2.trans (hb3.mono hb2.size)
  clear hb2
  go_wp2_with fail
  go_ret
  exact ⟨rfl, hb3⟩
end Go.Proofs.YtlcbfikmljmlpaaDoor

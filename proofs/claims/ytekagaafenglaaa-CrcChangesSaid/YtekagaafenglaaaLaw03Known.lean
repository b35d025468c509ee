/- The fixed calls of the statements of layer 3. -/
import Derived.Test.YtekagaafenglaaaCrcWalks2
namespace Go.Proofs.Ytekagaafenglaaa
set_option linter.unusedVariables false
open Go.RowKit
def nine : List UInt8 := [49, 50, 51, 52, 53, 54, 55, 56, 57]
theorem sum_nine : sumI nine = 3421780262 := by decide +kernel
theorem sum_none : sumI [] = 0 := by decide +kernel
set_option maxHeartbeats 400000 in
theorem known_any (w : World) :
    Calls Try.prog 13 #[] w fun e w' => e = .returned (.bool true) ∧ Below w.heap.size w w' := by
  go_enter Try.func13, Try.ntmps13
  go_wp2_with fail
  refine (make_any _).mono ?_
  rintro e w1 ⟨rfl, hb, ht⟩
  have hs := hid sum_nine
  go_wp2_with fail
  refine (sum_any _ _ _ nine _ ((ht.keep ((Below.refl w1.heap.size w1).alloc (Nat.le_refl _) _) ht.lt)) (Sees.of_alloc _ _ _ rfl) (by decide)).mono ?_
  rintro e w2 ⟨rfl, rfl⟩
  rw [hs.out]
  go_wp2_with fail
  refine (sum_any _ _ _ [] _ ((ht.keep ((Below.refl w1.heap.size w1).alloc (Nat.le_refl _) _) ht.lt)) (Sees.nil _ _) (by decide)).mono ?_
  rintro e w2 ⟨rfl, rfl⟩
  rw [sum_none]
  go_wp2_with fail
  go_ret
  exact ⟨rfl, hb.alloc hb.size _⟩
end Go.Proofs.Ytekagaafenglaaa

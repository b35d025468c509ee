/- The fixed calls of the statements of layer 28. -/
import Derived.Test.YtllbemdeimgiiaaTailRight
import Derived.Test.YtllbemdeimgiiaaTailLength
namespace Go.Proofs.Ytllbemdeimgiiaa
set_option linter.unusedVariables false
open Go.RowKit
theorem kb1 : blocksZ 600 256 = 3 := by decide +kernel
theorem kl1 : lengthZ 600 256 2 = 88 := by decide +kernel
theorem kr1 : rightB 0 [0, 9] = true := by decide +kernel
theorem kr2 : rightB 0 [9, 9] = false := by decide +kernel
set_option maxHeartbeats 400000 in
theorem known_any (w : World) :
    Calls Try.prog 14 #[] w (BoolPost w w.heap.size true) := by
  have h1 := hid kb1
  have h2 := hid kl1
  have h3 := hid kr1
  have h4 := hid kr2
  go_enter Try.func14, Try.ntmps14
  go_wp2_with fail
  refine (blocks_any _ _ _).mono ?_
  rintro e w1 ⟨rfl, rfl⟩
  rw [h1.out]
  go_wp2_with fail
  refine (length_any _ _ _ _).mono ?_
  rintro e w1 ⟨rfl, rfl⟩
  rw [h2.out]
  go_wp2_with fail
  have hb0 : Below w.heap.size w (w.alloc (.cells #[.int .i64 0, .int .i64 9] 3)) := (Below.refl _ w).alloc (Nat.le_refl _) _
  refine (right_any 0 0 _ 2 [0, 9] _ (Sees.of_alloc _ _ _ rfl) (by decide)).mono ?_
  rintro e w1 ⟨rfl, hb1⟩
  rw [h3.out]
  have hb01 := hb0.trans (hb1.mono hb0.size)
  clear hb1 hb0
  go_wp2_with fail
  have hb2 : Below w.heap.size w (w1.alloc (.cells #[.int .i64 9, .int .i64 9] 3)) := hb01.alloc hb01.size _
  refine (right_any 0 0 _ 2 [9, 9] _ (Sees.of_alloc _ _ _ rfl) (by decide)).mono ?_
  rintro e w2 ⟨rfl, hb3⟩
  rw [h4.out]
  have hb03 := hb2.trans (hb3.mono hb2.size)
  go_wp2_with fail
  go_ret
  exact ⟨rfl, hb03⟩
end Go.Proofs.Ytllbemdeimgiiaa

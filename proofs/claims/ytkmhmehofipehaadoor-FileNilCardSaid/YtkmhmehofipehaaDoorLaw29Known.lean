/- The fixed calls of the statements of layer 29. -/
import Derived.Test.YtkmhmehofipehaaDoorFileBuild0
namespace Go.Proofs.YtkmhmehofipehaaDoor
set_option linter.unusedVariables false
open Go.RowKit
set_option maxRecDepth 20000 in
set_option maxHeartbeats 1000000 in
theorem known_any (w : World) :
    Calls Tryd.prog 9 #[] w fun e w' => e = .returned (.bool true) ∧ Below w.heap.size w w' := by
  obtain ⟨R, hR⟩ : ∃ R, R = sealed (infoHead 1 1 8 0 1 256) ++ sealed [84, 71, 0] ++ sealed (tailHead 0 0 []) := ⟨_, rfl⟩
  have hR44 : R.length = 44 := by rw [hR]; simp [sealed, infoHead, tailHead_len, bytesLE_length]
  have HB := hid (show ∀ g W, Tab W g → Calls Tryd.prog 10 #[.pointer (some ⟨g, 0, none⟩), .agg #[.int .i64 1, .int .i64 1, .int .i64 8, .int .i64 1, .int .i64 256, .int .i64 0], .slice none 0 0, .slice none 0 0, .int .u32 0] W (PutPost W R) from fun g W h => by
    rw [hR]
    exact build_none g 1 1 8 1 256 0 0 none none 0 0 W h (by decide) (by decide) (by decide) _ rfl)
  have HR := hid hR44
  clear hR hR44
  go_enter Tryd.func9, Tryd.ntmps9
  go_wp2_with fail
  refine (make_any _).mono ?_
  rintro e w1 ⟨rfl, hb1, ht1⟩
  go_wp2_with fail
  refine (HB.out _ _ ht1).mono ?_
  rintro e w2 ⟨v, rfl, hv⟩
  obtain ⟨A, c, rfl, hs, hA, ho, hb2⟩ := hv.parts
  have hbw := hb1.trans (hb2.mono hb1.size)
  clear hv hs hA ho hb1 hb2
  rw [HR.out]
  go_wp2_with fail
  go_ret
  exact ⟨rfl, hbw⟩
end Go.Proofs.YtkmhmehofipehaaDoor

/- The walk of TagsNil. -/
import Derived.Test.YtlcbfikmljmlpaaDoorLaw26Known
namespace Go.Proofs.YtlcbfikmljmlpaaDoor
set_option linter.unusedVariables false
open Go.RowKit
theorem tput_nil (v : Value) (w : World) : Calls Tryd.prog 23 #[.pointer none, v] w fun e w' => e = .returned (.tuple #[.slice none 0 0, .int .i64 2]) ∧ w = w' := by
  go_enter Tryd.func23, Tryd.ntmps23
  go_wp2_with fail
  go_ret2
  exact ⟨rfl, rfl⟩
theorem tget_nil (v : Value) (w : World) : Calls Tryd.prog 24 #[.pointer none, v] w fun e w' => e = .returned (.tuple #[.slice none 0 0, .int .i64 0, .int .i64 2]) ∧ w = w' := by
  go_enter Tryd.func24, Tryd.ntmps24
  go_wp2_with fail
  exact bodyPost_ret (results_tmp3 rfl _ _ _) rfl ⟨rfl, rfl⟩
namespace tagsNil
theorem walk (l b : Value) (w : World) :
    Calls Tryd.prog 6 #[l, b] w fun e w' => e = .returned (.bool true) ∧ Below w.heap.size w w' := by
  go_enter Tryd.func6, Tryd.ntmps6
  go_wp2_with fail
  refine (tput_nil _ _).mono ?_
  rintro e w1 ⟨rfl, rfl⟩
  go_wp2_with fail
  refine (tget_nil _ _).mono ?_
  rintro e w1 ⟨rfl, rfl⟩
  go_wp2_with fail
  refine (known_any _).mono ?_
  rintro e w1 ⟨rfl, hb⟩
  go_wp2_with fail
  go_ret
  exact ⟨rfl, hb⟩
end tagsNil
end Go.Proofs.YtlcbfikmljmlpaaDoor

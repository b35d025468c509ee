/- A taker's error. -/
import Derived.Test.YtbcddeiicneajaaTaker
namespace Go.Proofs.Ytbcddeiicneajaa
set_option linter.unusedVariables false
open Go.RowKit
set_option maxHeartbeats 400000 in
theorem terr_is (g : Nat) (err : Int) (w : World) (hc0 : w.cell? ⟨g, 0, none⟩ = some (.int .i64 err)) :
    Calls Try.prog 16 #[.pointer (some ⟨g, 0, none⟩)] w fun x w' => x = .returned (.int .i64 err) ∧ w = w' := by
  go_enter Try.func16, Try.ntmps16
  go_wp2
  go_ret
  exact ⟨rfl, rfl⟩
set_option maxHeartbeats 400000 in
theorem terr_nil (w : World) :
    Calls Try.prog 16 #[.pointer none] w fun x w' => x = .returned (.int .i64 2) ∧ w = w' := by
  go_enter Try.func16, Try.ntmps16
  go_wp2
  go_ret
  exact ⟨rfl, rfl⟩
end Go.Proofs.Ytbcddeiicneajaa

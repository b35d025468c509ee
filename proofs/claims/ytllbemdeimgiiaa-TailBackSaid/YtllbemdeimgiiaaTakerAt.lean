/- Where a taker stands, and its error. -/
import Derived.Test.YtllbemdeimgiiaaTaker
namespace Go.Proofs.Ytllbemdeimgiiaa
set_option linter.unusedVariables false
open Go.RowKit
set_option maxHeartbeats 400000 in
theorem tat_tk (g : Nat) (e : Int) (p : Nat) (l : List UInt8) (w : World) (h : Tk w g e p l) :
    Calls Try.prog 44 #[.pointer (some ⟨g, 0, none⟩)] w fun x w' => x = .returned (.int .i64 (p : Int)) ∧ w = w' := by
  obtain ⟨A, c, hc0, hc1, hc2, _⟩ := h.cells
  go_enter Try.func44, Try.ntmps44
  go_wp2
  go_ret
  exact ⟨rfl, rfl⟩
set_option maxHeartbeats 400000 in
theorem terr_tk (g : Nat) (e : Int) (p : Nat) (l : List UInt8) (w : World) (h : Tk w g e p l) :
    Calls Try.prog 43 #[.pointer (some ⟨g, 0, none⟩)] w fun x w' => x = .returned (.int .i64 e) ∧ w = w' := by
  obtain ⟨A, c, hc0, hc1, hc2, _⟩ := h.cells
  go_enter Try.func43, Try.ntmps43
  go_wp2
  go_ret
  exact ⟨rfl, rfl⟩
end Go.Proofs.Ytllbemdeimgiiaa

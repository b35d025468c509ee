/- The maker: Len. -/
import Derived.Test.YtbcddeiicneajaaMakerU
namespace Go.Proofs.Ytbcddeiicneajaa
set_option linter.unusedVariables false
open Go.RowKit
set_option maxHeartbeats 1000000 in
theorem len_any (g : Nat) (R : Nat → Prop) (err : Int) (l : List UInt8) (w : World) (hm : Mk w g R err l) :
    Calls Try.prog 12 #[.pointer (some ⟨g, 0, none⟩)] w fun e w' => e = .returned (.int .i64 (if err = 0 then (l.length : Int) else 0)) ∧ w = w' := by
  have hc0 := hm.cell0
  obtain ⟨A, c, hg, ho, hr, ha, hz⟩ := hm
  have hc1 : w.cell? ⟨g, 1, none⟩ = some (.slice A l.length c) := by rw [cell_of_row _ _ _ _ _ _ hg]; rfl
  clear hg
  by_cases h0 : err = 0
  · subst h0
    rw [if_pos rfl]
    go_enter Try.func12, Try.ntmps12
    go_wp2_with fail
    refine (mready_is g 0 true _ hc0 rfl).mono ?_
    rintro e w' ⟨rfl, rfl⟩
    go_wp2_with fail
    go_ret
    exact ⟨rfl, rfl⟩
  · have d0 : (err == 0) = false := by simpa using h0
    rw [if_neg h0]
    go_enter Try.func12, Try.ntmps12
    go_wp2_with fail
    refine (mready_is g err false _ hc0 d0).mono ?_
    rintro e w' ⟨rfl, rfl⟩
    go_wp2_with fail
    go_ret
    exact ⟨rfl, rfl⟩
set_option maxHeartbeats 1000000 in
theorem len_nil (w : World) :
    Calls Try.prog 12 #[.pointer none] w fun e w' => e = .returned (.int .i64 0) ∧ w = w' := by
  go_enter Try.func12, Try.ntmps12
  go_wp2_with fail
  refine (mready_nil _).mono ?_
  rintro e w' ⟨rfl, rfl⟩
  go_wp2_with fail
  go_ret
  exact ⟨rfl, rfl⟩
end Go.Proofs.Ytbcddeiicneajaa

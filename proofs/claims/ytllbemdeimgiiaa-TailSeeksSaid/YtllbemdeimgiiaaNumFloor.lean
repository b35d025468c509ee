/- Contracts: num.Floor, num.Mod, where nothing is below 0. -/
import Derived.Test.YtllbemdeimgiiaaProg
import Derived.Test.YtllbemdeimgiiaaKit
import Derived.WalkSpells
import Derived.WalkLawsBesides
namespace Go.Proofs.Ytllbemdeimgiiaa
set_option linter.unusedVariables false
open Go.RowKit
set_option maxHeartbeats 400000 in
theorem floor_nn (a b : Nat) (w : World) (ha : a < 9223372036854775808) (hb : 1 ≤ b) :
    Calls Try.prog 27 #[.int .i64 (a : Int), .int .i64 (b : Int)] w fun e w' => e = .returned (.int .i64 ((a / b : Nat) : Int)) ∧ w = w' := by
  have hd0 : ¬ (b : Int) < 1 := by omega
  have hq0 : 0 ≤ (a : Int) / b := Int.natCast_nonneg (a / b)
  have hq1 : (a : Int) / b ≤ a := by have := Nat.div_le_self a b; omega
  have hm0 : 0 ≤ (a : Int) % b := Int.natCast_nonneg (a % b)
  have hm1 : ¬ (a : Int) % b < 0 := by omega
  go_enter Try.func27, Try.ntmps27
  go_wp2_with fail
  go_ret
  exact ⟨by simp, rfl⟩
set_option maxHeartbeats 400000 in
theorem mod_nn (a b : Nat) (w : World) (ha : a < 9223372036854775808) (hb : 1 ≤ b) :
    Calls Try.prog 28 #[.int .i64 (a : Int), .int .i64 (b : Int)] w fun e w' => e = .returned (.int .i64 ((a % b : Nat) : Int)) ∧ w = w' := by
  have hd0 : ¬ (b : Int) < 1 := by omega
  have hm0 : 0 ≤ (a : Int) % b := Int.natCast_nonneg (a % b)
  have hm1 : ¬ (a : Int) % b < 0 := by omega
  go_enter Try.func28, Try.ntmps28
  go_wp2_with fail
  go_ret
  exact ⟨by simp, rfl⟩
end Go.Proofs.Ytllbemdeimgiiaa

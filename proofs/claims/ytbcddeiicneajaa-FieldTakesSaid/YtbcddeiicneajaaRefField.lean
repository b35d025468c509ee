/- The reference's fields: Power. -/
import Derived.Test.YtbcddeiicneajaaRefBytes
namespace Go.Proofs.Ytbcddeiicneajaa
set_option linter.unusedVariables false
open Go.RowKit
set_option maxHeartbeats 1000000 in
theorem power_any (n : Nat) (w : World) (hn : n ≤ 7) :
    Calls Try.prog 44 #[.int .i64 (n : Int)] w fun e w' => e = .returned (.int .u64 ((256 ^ n : Nat) : Int)) ∧ w = w' := by
  go_enter Try.func44, Try.ntmps44
  go_wp2_with fail
  go_loop [3, 4] (fun p i => ∃ k : Nat, k ≤ n ∧ i = .int .i64 k ∧ p = .int .u64 ((256 ^ k : Nat) : Int)) (fun _ i => n - (intOf i).toNat)
  case atStart => exact ⟨0, by omega, rfl, rfl⟩
  case round =>
    obtain ⟨k, hk, rfl, rfl⟩ := hrel
    by_cases hlt : k < n
    · have hp : 256 ^ k ≤ 256 ^ 6 := Nat.pow_le_pow_right (by omega) (by omega)
      have hs := hid (Nat.pow_succ 256 k)
      generalize 256 ^ k = y at hp hs
      have hw : IntKind.u64.wrap (256 * (y : Int)) = 256 * (y : Int) := by rw [IntKind.wrap_u64]; omega
      have hmod : 256 * (y : Int) % 18446744073709551616 = 256 * (y : Int) := by omega
      have d1 : decide ((k : Int) < n) = true := by simp; omega
      have d2 : decide ((k : Int) < 7) = true := by simp; omega
      go_wp2_with fail
      exact ⟨⟨k + 1, by omega, by go_num, by rw [hs.out]; simp; omega⟩, by simp [intOf]; omega⟩
    · obtain rfl : k = n := by omega
      go_wp2_with fail
      go_ret
      exact ⟨by simp, rfl⟩
end Go.Proofs.Ytbcddeiicneajaa

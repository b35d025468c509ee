/- The maker: U, whole. -/
import Derived.Test.YtbcddeiicneajaaField3
namespace Go.Proofs.Ytbcddeiicneajaa
set_option linter.unusedVariables false
open Go.RowKit
theorem mk_new (w : World) : Mk (w.alloc (.cells #[.int .i64 0, .slice none 0 0] 31)) w.heap.size (fun b => b = w.heap.size) 0 [] :=
  ⟨none, 0, heap_alloc_new _ _, own_nil _ _ _ _, rfl, fun a ha => (by cases ha), fun b hb => by subst hb; simp⟩
theorem makerU_any (g : Nat) (R : Nat → Prop) (err : Int) (l : List UInt8) (v : Nat) (n : Int) (w : World) (hm : Mk w g R err l) (hv : v < 18446744073709551616) (hl : l.length ≤ 140737488355000) :
    Calls Try.prog 13 #[.pointer (some ⟨g, 0, none⟩), .int .u64 (v : Int), .int .i64 n] w (MkPost w g R (putU (err, l) v n)) := by
  by_cases hbad : err ≠ 0 ∨ n < 1 ∨ 8 < n ∨ (n < 8 ∧ 256 ^ n.toNat ≤ v)
  · exact makerU_bad g R err l v n w hm hv hbad
  · obtain ⟨N, rfl⟩ := Int.eq_ofNat_of_zero_le (show 0 ≤ n by omega)
    obtain rfl : err = 0 := by omega
    have hp : putU (0, l) v (N : Int) = (0, l ++ bytesLE v N) := by
      rw [putU, if_neg (by simp), if_neg (by omega), if_neg (fun h => hbad (.inr (.inr (.inr h))))]; rfl
    rw [hp]
    refine makerU_ok g R l v N w hm hv (by omega) ?_ hl
    by_cases h8 : N = 8
    · exact .inl h8
    · right
      rcases Nat.lt_or_ge v (256 ^ N) with h | h
      · exact h
      · exact absurd (.inr (.inr (.inr ⟨by omega, by simpa using h⟩))) hbad
set_option maxHeartbeats 1000000 in
theorem makerU_nil (v n : Int) (w : World) :
    Calls Try.prog 13 #[.pointer none, .int .u64 v, .int .i64 n] w fun e w' => e = .returned (.tuple #[]) ∧ w = w' := by
  go_enter Try.func13, Try.ntmps13
  go_wp2_with fail
  refine (mready_nil _).mono ?_
  rintro e w' ⟨rfl, rfl⟩
  go_wp2_with fail
  exact bodyPost_ret (results_none rfl _ _ _) rfl ⟨rfl, rfl⟩
end Go.Proofs.Ytbcddeiicneajaa

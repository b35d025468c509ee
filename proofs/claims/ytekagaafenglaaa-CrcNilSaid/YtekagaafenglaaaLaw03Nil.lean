/- The walk of CrcNil. -/
import Derived.Test.YtekagaafenglaaaLaw03Known
import Derived.Test.YtekagaafenglaaaCrcSkip
namespace Go.Proofs.Ytekagaafenglaaa.crcNil
set_option linter.unusedVariables false
open Go.RowKit
set_option maxHeartbeats 400000 in
theorem next_nil (s : Int) (A : Option Addr) (n c : Nat) (w : World) :
    Calls Try.prog 16 #[.pointer none, .int .u32 s, .slice A n c] w fun e w' => e = .returned (.int .u32 0) ∧ w = w' := by
  go_enter Try.func16, Try.ntmps16
  go_wp2
  go_ret
  exact ⟨rfl, rfl⟩
set_option maxHeartbeats 400000 in
theorem sum_nil (A : Option Addr) (n c : Nat) (w : World) :
    Calls Try.prog 14 #[.pointer none, .slice A n c] w fun e w' => e = .returned (.int .u32 0) ∧ w = w' := by
  go_enter Try.func14, Try.ntmps14
  go_wp2_with (go_at_call 16; refine (next_nil _ _ _ _ _).mono ?_; rintro e w' ⟨rfl, rfl⟩)
  go_ret
  exact ⟨rfl, rfl⟩
set_option maxHeartbeats 400000 in
theorem zeros_nil (s n : Int) (w : World) :
    Calls Try.prog 19 #[.pointer none, .int .u32 s, .int .i64 n] w fun e w' => e = .returned (.int .u32 0) ∧ w = w' := by
  go_enter Try.func19, Try.ntmps19
  go_wp2
  go_ret
  exact ⟨rfl, rfl⟩
set_option maxHeartbeats 400000 in
set_option maxRecDepth 20000 in
theorem walk (s : Int) (A : Option Addr) (c : Nat) (l : List UInt8) (n : Int) (w : World) (hs : 0 ≤ s ∧ s < 4294967296) (hb : SeesB w A l ∧ l.length ≤ c ∧ c ≤ maxLen) (hn : -9223372036854775808 ≤ n ∧ n < 9223372036854775808) :
    Calls Try.prog 8 #[.int .u32 s, .slice A l.length c, .int .i64 n] w fun e w' => e = .returned (.bool true) ∧ Below w.heap.size w w' := by
  obtain ⟨hl, hc1, hc2⟩ := hb
  unfold maxLen at hc2
  have hmx : l.length ≤ 9223372036854775807 := by omega
  clear hc1 hc2
  by_cases hbig : 3000 < l.length
  · go_enter Try.func8, Try.ntmps8
    go_wp2_with fail
    refine (known_any _).mono ?_
    rintro e w2 ⟨rfl, hb2⟩
    go_wp2_with fail
    go_ret
    exact ⟨rfl, hb2⟩
  · go_enter Try.func8, Try.ntmps8
    go_wp2_with fail
    refine (sum_nil _ _ _ _).mono ?_
    rintro e w2 ⟨rfl, rfl⟩
    go_wp2_with fail
    refine (next_nil _ _ _ _ _).mono ?_
    rintro e w2 ⟨rfl, rfl⟩
    go_wp2_with fail
    refine (zeros_nil _ _ _).mono ?_
    rintro e w2 ⟨rfl, rfl⟩
    go_wp2_with fail
    refine (known_any _).mono ?_
    rintro e w2 ⟨rfl, hb2⟩
    go_wp2_with fail
    go_ret
    exact ⟨rfl, hb2⟩
end Go.Proofs.Ytekagaafenglaaa.crcNil

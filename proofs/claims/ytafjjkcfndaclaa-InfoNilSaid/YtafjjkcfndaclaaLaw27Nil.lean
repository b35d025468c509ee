/- The walk of InfoNil. -/
import Derived.Test.YtafjjkcfndaclaaLaw27Known
import Derived.Test.YtafjjkcfndaclaaInfoMates
import Derived.Test.YtafjjkcfndaclaaInfoGet
namespace Go.Proofs.Ytafjjkcfndaclaa.infoNil
set_option linter.unusedVariables false
open Go.RowKit
set_option maxHeartbeats 2000000 in
theorem walk (k ch bi ra bl sh : Int) (A : Option Addr) (c : Nat) (l : List UInt8) (w : World) (hl : SeesB w A l ∧ l.length ≤ c ∧ c ≤ maxLen) :
    Calls Try.prog 8 #[.agg #[.int .i64 k, .int .i64 ch, .int .i64 bi, .int .i64 ra, .int .i64 bl, .int .i64 sh], .slice A l.length c] w fun e w' => e = .returned (.bool true) ∧ Below w.heap.size w w' := by
  have hb : Below w.heap.size w (w.alloc (.cells #[.int .i64 k, .int .i64 ch, .int .i64 bi, .int .i64 ra, .int .i64 bl, .int .i64 sh] 25)) := (Below.refl _ w).alloc (Nat.le_refl _) _
  have hq : ∀ W, (Op.equalIn 10000 25 (.agg #[.int .i64 0, .int .i64 0, .int .i64 0, .int .i64 0, .int .i64 0, .int .i64 0]) (.agg #[.int .i64 0, .int .i64 0, .int .i64 0, .int .i64 0, .int .i64 0, .int .i64 0])).run Try.prog W = .ok true W := fun W => eq_info 0 0 0 0 0 0 0 0 0 0 0 0 W
  go_enter Try.func8, Try.ntmps8
  go_wp2_with fail
  generalize w.alloc (.cells #[.int .i64 k, .int .i64 ch, .int .i64 bi, .int .i64 ra, .int .i64 bl, .int .i64 sh] 25) = w0 at *
  refine (iput_nil k ch bi ra bl sh _).mono ?_
  rintro e w1 ⟨rfl, hb1⟩
  have hbw1 := hb.trans (hb1.mono hb.size)
  clear hb hb1
  go_wp2_with fail
  refine (iget_nil A _ c _).mono ?_
  rintro e w2 ⟨rfl, hb2⟩
  have hbw2 := hbw1.trans (hb2.mono hbw1.size)
  clear hbw1 hb2
  have hb3 : Below w.heap.size w (w2.alloc (.cells #[.int .i64 0, .int .i64 0, .int .i64 0, .int .i64 0, .int .i64 0, .int .i64 0] 25)) := hbw2.alloc hbw2.size _
  go_wp2_with fail
  refine (known_any _).mono ?_
  rintro e w4 ⟨rfl, hb4⟩
  go_wp2_with fail
  go_ret
  exact ⟨rfl, hb3.trans (hb4.mono hb3.size)⟩
end Go.Proofs.Ytafjjkcfndaclaa.infoNil

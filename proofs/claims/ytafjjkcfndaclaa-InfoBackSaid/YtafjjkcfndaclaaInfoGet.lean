/- Info read. -/
import Derived.Test.YtafjjkcfndaclaaInfoRefPut
import Derived.Test.YtafjjkcfndaclaaTaker2
import Derived.Test.YtafjjkcfndaclaaConv
import Derived.Test.YtafjjkcfndaclaaRes
namespace Go.Proofs.Ytafjjkcfndaclaa
set_option linter.unusedVariables false
open Go.RowKit
set_option maxHeartbeats 1000000 in
theorem iget_nil (A : Option Addr) (n c : Nat) (w : World) :
    Calls Try.prog 21 #[.pointer none, .slice A n c] w fun e w' => e = .returned (.tuple #[.agg #[.int .i64 0, .int .i64 0, .int .i64 0, .int .i64 0, .int .i64 0, .int .i64 0], .int .i64 2]) ∧ Below w.heap.size w w' := by
  have hb : Below w.heap.size w (w.alloc (.cells #[.int .i64 0, .int .i64 0, .int .i64 0, .int .i64 0, .int .i64 0, .int .i64 0] 25)) := (Below.refl _ w).alloc (Nat.le_refl _) _
  go_enter Try.func21, Try.ntmps21
  go_wp2_with fail
  exact bodyPost_ret (results_row_tmp rfl _ _ w.heap.size _ _ _ _ rfl (heap_alloc_new _ _) Try.underlying25 rfl (by kernel_rfl)) rfl ⟨rfl, hb⟩
end Go.Proofs.Ytafjjkcfndaclaa

/- The walk of CrcTable. -/
import Derived.Test.YtekagaafenglaaaLaw03Known
namespace Go.Proofs.Ytekagaafenglaaa.crcTable
open Go.RowKit
set_option maxHeartbeats 400000 in
set_option maxRecDepth 20000 in
theorem walk (place x : Int) (w : World) (hp : 0 ≤ place ∧ place < 256) (hx : 0 ≤ x ∧ x < 4294967296) :
    Calls Try.prog 3 #[.int .u8 place, .int .u32 x] w fun e w' => e = .returned (.bool true) ∧ Below w.heap.size w w' := by
  obtain ⟨p, rfl⟩ := Int.eq_ofNat_of_zero_le hp.1
  have hm : (p : Int) % 4294967296 = p := by omega
  have hw : IntKind.u32.wrap (p : Int) = p := by rw [IntKind.wrap_u32]; omega
  have hpl : p < 256 := by omega
  have hpp : (p : Int) < 4294967296 := by omega
  go_enter Try.func3, Try.ntmps3
  go_wp2_with fail
  refine (make_any _).mono ?_
  rintro e w1 ⟨rfl, hb, ht⟩
  have hc := ht.cell p hpl
  go_wp2_with fail
  go_still_tail 21, (by kernel_rfl)
  still_call (same (eight_any _ _ (by omega) (by omega)))
  repeat still_step
  still_call (same (step_any _ _ hx.1 hx.2))
  repeat still_step
  still_call (same (rstep_any _ _ hx.1 hx.2))
  repeat still_step
  refine wpStill_nil ?_
  go_wp2_with fail
  refine (known_any _).mono ?_
  rintro e w2 ⟨rfl, hb2⟩
  go_wp2_with fail
  go_ret
  exact ⟨rfl, hb.drew.trans (hb2.mono hb.size)⟩
end Go.Proofs.Ytekagaafenglaaa.crcTable

/- The walk of CrcSums. -/
import Derived.Test.YtekagaafenglaaaLaw03Known
namespace Go.Proofs.Ytekagaafenglaaa.crcSums
open Go.RowKit
set_option maxHeartbeats 400000 in
set_option maxRecDepth 20000 in
theorem walk (s : Int) (A : Option Addr) (c : Nat) (l : List UInt8) (w : World) (hs : 0 ≤ s ∧ s < 4294967296) (hb : SeesB w A l ∧ l.length ≤ c ∧ c ≤ maxLen) :
    Calls Try.prog 4 #[.int .u32 s, .slice A l.length c] w fun e w' => e = .returned (.bool true) ∧ Below w.heap.size w w' := by
  obtain ⟨hl, hc1, hc2⟩ := hb
  unfold maxLen at hc2
  have hmx : l.length ≤ 9223372036854775807 := by omega
  clear hc1 hc2
  by_cases hbig : 5000 < l.length
  · go_enter Try.func4, Try.ntmps4
    go_wp2_with fail
    refine (known_any _).mono ?_
    rintro e w2 ⟨rfl, hb2⟩
    go_wp2_with fail
    go_ret
    exact ⟨rfl, hb2⟩
  · have hlen : l.length ≤ 140737488355328 := by omega
    go_enter Try.func4, Try.ntmps4
    go_wp2_with fail
    refine (make_any _).mono ?_
    rintro e w1 ⟨rfl, hb, ht⟩
    have hl1 := hl.below hb
    go_wp2_with fail
    refine (sum_any _ _ _ l _ ht hl1 hlen).mono ?_
    rintro e w2 ⟨rfl, rfl⟩
    go_wp2_with fail
    refine (rsum_any _ _ l _ hl1 hlen).mono ?_
    rintro e w2 ⟨rfl, rfl⟩
    go_wp2_with fail
    refine (next_any _ _ _ _ l _ ht hs.1 hs.2 hl1 hlen).mono ?_
    rintro e w2 ⟨rfl, rfl⟩
    go_wp2_with fail
    refine (rnext_any _ _ _ l _ hs.1 hs.2 hl1 hlen).mono ?_
    rintro e w2 ⟨rfl, rfl⟩
    go_wp2_with fail
    refine (known_any _).mono ?_
    rintro e w2 ⟨rfl, hb2⟩
    go_wp2_with fail
    go_ret
    exact ⟨rfl, hb.trans (hb2.mono hb.size)⟩
end Go.Proofs.Ytekagaafenglaaa.crcSums

/- The walk of PcmChecks. -/
import Derived.Test.YtfinefhebffpcaaLaw05Known
import Derived.Test.YtfinefhebffpcaaPcmSmall
namespace Go.Proofs.Ytfinefhebffpcaa.pcmChecks
set_option linter.unusedVariables false
open Go.RowKit
set_option maxRecDepth 20000 in
set_option maxHeartbeats 4000000 in
theorem walk (ch bi ra : Int) (A : Option Addr) (c : Nat) (L : List Chan) (w : World) (h : SeesL w A L ∧ L.length ≤ maxLen) :
    Calls Try.prog 3 #[.agg #[.int .i64 ch, .int .i64 bi, .int .i64 ra, .slice A L.length c]] w fun e w' => e = .returned (.bool true) ∧ Below w.heap.size w w' := by
  obtain ⟨h, hlen⟩ := h
  have hb := below_box w ch bi ra A L.length c
  have hs := SndAt.new w ch bi ra A L.length c
  have h0 := h.below hb
  clear h
  have HK := hid (fun W hW => check_any ch bi ra A c L W hW hlen)
  have HR := hid (fun W hW => rcheck_any ch bi ra A c L W hW hlen)
  have HC := hid (fun W hW => count_any ch bi ra A c L W hW)
  have HD := hid (fun W hW => rcount_any ch bi ra A c L W hW)
  have HS := hid (show ∀ W, SeesL W A L → Calls Try.prog 8 #[.agg #[.int .i64 ch, .int .i64 bi, .int .i64 ra, .slice A L.length c], .int .i64 400] W (SmallPost W 400 L) from fun W hW => rsmall_any ch bi ra A c L 400 W hW hlen (by omega))
  go_enter Try.func3, Try.ntmps3
  go_wp2_with fail
  refine (HS.out _ h0).mono ?_
  rintro e w1 ⟨b, rfl, -, hb1⟩
  have hs1 := hs.below hb1
  have hl := h0.below hb1
  have hbW := hb.trans (hb1.mono hb.size)
  clear hb hb1 hs h0 HS
  obtain ⟨c0, c1, c2, c3⟩ := hs1
  cases b with
  | false =>
    go_wp2_with fail
    refine (known_any _).mono ?_
    rintro e w2 ⟨rfl, hb2⟩
    go_wp2_with fail
    go_ret
    exact ⟨rfl, hbW.trans (hb2.mono hbW.size)⟩
  | true =>
    go_wp2_with fail
    go_region_held3 (fun w' => w'.cell? ⟨w.heap.size, 0, none⟩ = some (.int .i64 ch) ∧ w'.cell? ⟨w.heap.size, 1, none⟩ = some (.int .i64 bi) ∧ w'.cell? ⟨w.heap.size, 2, none⟩ = some (.int .i64 ra) ∧ w'.cell? ⟨w.heap.size, 3, none⟩ = some (.slice A L.length c)) (first | exact ⟨c0, c1, c2, c3⟩ | go_keep)
      (first | (go_at_call 10; refine (pright_any ch bi ra _).mono ?_; rintro e wa ⟨rfl, hba⟩; replace c0 := keep1 hba c0; replace c1 := keep1 hba c1; replace c2 := keep1 hba c2; replace c3 := keep1 hba c3; replace hl := hl.below ⟨hba.os, hba.tape, hba.output, hba.size, hba.block⟩; replace hbW := Below.trans hbW (Below.mono (w := _) ⟨hba.os, hba.tape, hba.output, hba.size, hba.block⟩ hbW.size); clear hba) | (go_at_call 11; refine (rpright_any ch bi ra _).mono ?_; rintro e wa ⟨rfl, hba⟩; replace c0 := keep1 hba c0; replace c1 := keep1 hba c1; replace c2 := keep1 hba c2; replace c3 := keep1 hba c3; replace hl := hl.below ⟨hba.os, hba.tape, hba.output, hba.size, hba.block⟩; replace hbW := Below.trans hbW (Below.mono (w := _) ⟨hba.os, hba.tape, hba.output, hba.size, hba.block⟩ hbW.size); clear hba) | (go_at_call 12; refine (HK.out _ ?_).mono ?_; exact hl; rintro e wa ⟨rfl, hba⟩; replace c0 := keep1 hba c0; replace c1 := keep1 hba c1; replace c2 := keep1 hba c2; replace c3 := keep1 hba c3; replace hl := hl.below ⟨hba.os, hba.tape, hba.output, hba.size, hba.block⟩; replace hbW := Below.trans hbW (Below.mono (w := _) ⟨hba.os, hba.tape, hba.output, hba.size, hba.block⟩ hbW.size); clear hba) | (go_at_call 13; refine (HR.out _ ?_).mono ?_; exact hl; rintro e wa ⟨rfl, hba⟩; replace c0 := keep1 hba c0; replace c1 := keep1 hba c1; replace c2 := keep1 hba c2; replace c3 := keep1 hba c3; replace hl := hl.below ⟨hba.os, hba.tape, hba.output, hba.size, hba.block⟩; replace hbW := Below.trans hbW (Below.mono (w := _) ⟨hba.os, hba.tape, hba.output, hba.size, hba.block⟩ hbW.size); clear hba) | (go_at_call 14; refine (HC.out _ ?_).mono ?_; exact hl; rintro e wa ⟨rfl, hba⟩; replace c0 := keep1 hba c0; replace c1 := keep1 hba c1; replace c2 := keep1 hba c2; replace c3 := keep1 hba c3; replace hl := hl.below ⟨hba.os, hba.tape, hba.output, hba.size, hba.block⟩; replace hbW := Below.trans hbW (Below.mono (w := _) ⟨hba.os, hba.tape, hba.output, hba.size, hba.block⟩ hbW.size); clear hba) | (go_at_call 15; refine (HD.out _ ?_).mono ?_; exact hl; rintro e wa ⟨rfl, hba⟩; replace c0 := keep1 hba c0; replace c1 := keep1 hba c1; replace c2 := keep1 hba c2; replace c3 := keep1 hba c3; replace hl := hl.below ⟨hba.os, hba.tape, hba.output, hba.size, hba.block⟩; replace hbW := Below.trans hbW (Below.mono (w := _) ⟨hba.os, hba.tape, hba.output, hba.size, hba.block⟩ hbW.size); clear hba) | (go_at_call 9; refine (known_any _).mono ?_; rintro e wa ⟨rfl, hba⟩; replace c0 := keep1 hba c0; replace c1 := keep1 hba c1; replace c2 := keep1 hba c2; replace c3 := keep1 hba c3; replace hl := hl.below ⟨hba.os, hba.tape, hba.output, hba.size, hba.block⟩; replace hbW := Below.trans hbW (Below.mono (w := _) ⟨hba.os, hba.tape, hba.output, hba.size, hba.block⟩ hbW.size); clear hba))
    go_wp2_with fail
    go_ret
    exact ⟨rfl, hbW⟩
end Go.Proofs.Ytfinefhebffpcaa.pcmChecks

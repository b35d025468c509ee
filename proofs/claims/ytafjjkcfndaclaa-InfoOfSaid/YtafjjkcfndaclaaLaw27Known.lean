/- The fixed calls of the statements of layer 27. -/
import Derived.Test.YtafjjkcfndaclaaInfoRefPut
import Derived.Test.YtafjjkcfndaclaaConv
import Derived.Test.YtafjjkcfndaclaaTaker
import Derived.Test.YtafjjkcfndaclaaRes
import Derived.Deep.RegionHeld3
namespace Go.Proofs.Ytafjjkcfndaclaa
set_option linter.unusedVariables false
open Go.RowKit
set_option maxHeartbeats 2000000 in
theorem known_any (w : World) :
    Calls Try.prog 13 #[] w fun e w' => e = .returned (.bool true) ∧ Below w.heap.size w w' := by
  go_enter Try.func13, Try.ntmps13
  go_wp2_with fail
  refine (make_any w).mono ?_
  rintro e w1 ⟨rfl, hb1, ht1⟩
  go_wp2_with fail
  refine (iput_ok w.heap.size 1 1 8 1 256 0 w1 ht1 (by decide) (by decide)).mono ?_
  rintro e w2 ⟨v, rfl, hv⟩
  have h7 : (sealed (infoHead 1 1 8 0 1 256)).take 7 = [68, 83, 67, 49, 1, 1, 8] := by
    unfold sealed
    rw [show infoHead 1 1 8 0 1 256 = [68, 83, 67, 49, 1, 1, 8, 0, 1, 0, 0, 0, 1, 0, 0] by decide]
    rfl
  have h19 : (sealed (infoHead 1 1 8 0 1 256)).length = 19 := by
    unfold sealed; rw [List.length_append, bytesLE_length]; rfl
  generalize sealed (infoHead 1 1 8 0 1 256) = L at *
  obtain ⟨A, c, rfl, hs, hA, ho, hb2⟩ := hv.parts
  have hcc := own_cap ho
  have f1 : (7 : Int) ≤ c := by omega
  have hbw := hb1.trans (hb2.mono hb1.size)
  have hcv := conv_bs A c [68, 83, 67, 49, 1, 1, 8] w2 (by unfold SeesB; rw [← h7, List.map_take]; exact Sees.take hs 7)
  have hcv2 : (convert 26 9 (.slice A 7 c)).run Try.prog w2 = .ok (.string ⟨#[68, 83, 67, 49, 1, 1, 8]⟩) w2 := hcv
  clear hcv h7
  rw [h19]
  go_wp2_with fail
  go_ret
  exact ⟨rfl, hbw⟩
end Go.Proofs.Ytafjjkcfndaclaa
